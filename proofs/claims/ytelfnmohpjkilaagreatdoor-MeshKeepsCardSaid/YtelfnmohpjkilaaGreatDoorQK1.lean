/- SetW HilE HlsE Kep0 SpwE TriE KepW. -/
import Derived.WalkKit
import Derived.WalkSpells
import Derived.WalkLawsBesides
import Derived.Laws.OwnMore
import Derived.Deep.AppendLies
import Derived.Deep.Draws
import Derived.Maps.AppendAt
import Derived.OwnWalk
import Derived.Sort.Grow
import Derived.Shelf.GgSortFunc.RowK
import Derived.RangeFuncNested
import Derived.RangeFuncBox
import Derived.Test.YtelfnmohpjkilaaGreatDoorRows
import Derived.Handy
import Derived.Maps.Own
import Derived.Maps.Views
import Derived.DeepKeys4
import Derived.DeepKeys
import Derived.Laws.StructEq
import Derived.Deep.QuietTactic
import Derived.BigQuiet
import Derived.LoopN
import Derived.Laws.EntriesVeiled
import Derived.Shelf.SlSortCmp.QuietGrown
import Derived.Deep.RegionHeld3
import Derived.Deep.DrawnRows
import Derived.Sort.Statements
import Derived.Shelf.SlSortCmp.NoneTotal
import Derived.OrdersHeld
import Derived.OrdersIn
import Derived.RangeFuncCalls
import Derived.OwnWalkIn
import Derived.Deep.CutBlock
import Derived.Deep.DeepCutAuto
import Derived.IntWalk
import Derived.Test.YtelfnmohpjkilaaGreatDoorProg
import Derived.StillTailTactics
import Derived.Deep.WholeRow
import Derived.Great.BuildSlice
import Derived.Great.Walk
import Derived.Maps.OwnSet
import Derived.Maps.RangeWalk
import Derived.Deep.MidRow
import Derived.Shelf.RegionOpen
import Derived.WideKeyEntry
import Derived.Laws.IdiomStrings
import Derived.Lib.Strings
import Derived.Lib.Slices
import Derived.Lib.Walk
import Derived.Lib.TrimByte
import Derived.Laws.Strings3
import Derived.Laws.Bits64b
import Derived.Laws.BytesArg
import Derived.RangeFuncBound
import Derived.RangeFuncLeaves
import Derived.TacticsInMore
import Derived.LoopNIn
import Derived.LoopIn
import Derived.Test.YtelfnmohpjkilaaGreatDoorQ57
namespace Go.Proofs.YtelfnmohpjkilaaGreatDoor
open Go.RowKit Go.Sort
theorem setW_grown (g : Nat) : ∀ (vs : List Value) (w : World) (o : Nat), w.grownBy (setW w g o vs) (some g)
  | [], _, _ => World.grownBy.refl _ _
  | v :: vs, w, o => by
    have h1 : w.grownBy (w.setCell ⟨g, o, none⟩ v) (some g) := ⟨rfl, rfl, rfl, (KeepsWalks.setCell w _ v).size, fun k _ hne => Below.heap_setCell w ⟨g, o, none⟩ v k (fun e => hne (by rw [e]))⟩
    exact h1.trans (setW_grown g vs _ _)
end Go.Proofs.YtelfnmohpjkilaaGreatDoor
namespace Go.Proofs.YtelfnmohpjkilaaGreatDoor
open Go.RowKit Go.Sort
def hillH (ns : List Int) (x y : Nat) : Int := if ns.length = 0 then 0 else modC (ns.getD ((y * 7 + x) % ns.length) 0) 64
def hillV (ns : List Int) (x y : Nat) : Pt := ((x : Int) * 8, (y : Int) * 8, 100 + hillH ns x y)
theorem hillH_bound (ns : List Int) (x y : Nat) : 0 ≤ hillH ns x y ∧ hillH ns x y < 64 := by
  unfold hillH
  split
  · omega
  · exact modC_bound _ 64 (by omega)
theorem hillV_fits (ns : List Int) {x y : Nat} (hx : x ≤ 6) (hy : y ≤ 6) : fitsP (hillV ns x y) := by
  have := hillH_bound ns x y
  unfold hillV fitsP fits
  dsimp only
  omega
set_option maxRecDepth 100000 in
set_option maxHeartbeats 16000000 in
theorem hill_is (x y : Nat) (hx : x ≤ 6) (hy : y ≤ 6) (A : Option Addr) (c : Nat) (ns : List Int) (w : World) (hs : ns ≠ [] → Sl encZ4 1 w w.heap.size A ns) (hl : ns.length ≤ 49) (hf : ∀ n ∈ ns, fits n) :
    Calls Tryz.prog 78 #[.int .i64 x, .int .i64 y, .int .i64 8, .slice A ns.length c] w fun e w' => e = .returned (vP (hillV ns x y)) ∧ Below w.heap.size w w' := by
  obtain ⟨h0, hh0⟩ : ∃ h, h = hillH ns x y := ⟨_, rfl⟩
  have hV : hillV ns x y = ((x : Int) * 8, (y : Int) * 8, 100 + h0) := by rw [hh0]; rfl
  have hb0 := hillH_bound ns x y
  rw [← hh0] at hb0
  rw [hV]
  have HH := hide hh0
  clear hh0 hV
  obtain ⟨M, hM⟩ : ∃ M, M = ns.length := ⟨_, rfl⟩
  rw [← hM] at hl ⊢
  have HS := hide (And.intro hs (And.intro hf hM))
  clear hs hf hM
  go_enter Tryz.func78, Tryz.ntmps78
  go_upto_if 12 with fail
  obtain ⟨pb, hpb⟩ : ∃ g, g = w.heap.size := ⟨_, rfl⟩
  obtain ⟨X, hX⟩ : ∃ X, X = w.alloc (.cells #[.int .i64 0, .int .i64 0, .int .i64 0] 41) := ⟨_, rfl⟩
  rw [← hX, ← hpb]
  have hbp : Blk X pb 41 #[.int .i64 0, .int .i64 0, .int .i64 0] := by rw [hX, hpb]; exact Blk.new _ _ _
  have hBX : Below w.heap.size w X := by rw [hX]; exact (Below.refl _ w).alloc (Nat.le_refl _) _
  have HX := hide (And.intro hbp (And.intro hBX (show w.heap.size ≤ pb by omega)))
  clear hbp hBX hX hpb
  go_cut [9] (fun v wx => v = .int .i64 h0 ∧ Below X.heap.size X wx)
  case first =>
    by_cases hM0 : 0 < M
    · have i1 : (0 : Int) < (M : Int) := by omega
      obtain ⟨j, hj⟩ : ∃ j, j = (y * 7 + x) % M := ⟨_, rfl⟩
      have hjM : j < M := by rw [hj]; exact Nat.mod_lt _ hM0
      have e0 : (y : Int) * 7 + (x : Int) = ((y * 7 + x : Nat) : Int) := by omega
      have tm : ((y : Int) * 7 + (x : Int)) % (M : Int) = (j : Int) := by rw [e0, hj]; exact (Int.natCast_emod _ _).symm
      have tm2 : ((y : Int) * 7 + (x : Int)).tmod (M : Int) = (j : Int) := by rw [Int.tmod_eq_emod_of_nonneg (by omega)]; exact tm
      have hne : ns ≠ [] := fun h => by have := HS.out.2.2; rw [h] at this; simp at this; omega
      obtain ⟨q, hq⟩ : ∃ q, ns[j]? = some q := ⟨_, List.getElem?_eq_getElem (by rw [← HS.out.2.2]; exact hjM)⟩
      obtain ⟨ab, ao, hA0, hlt0, hc0⟩ := ((HS.out.1 hne).below HX.out.2.1).at hq
      have hc := hc0 0 _ rfl
      subst hA0
      have hM00 : ¬ M = 0 := by omega
      have i4 : ¬ (M : Int) = 0 := by omega
      rw [show ao + j * 1 + 0 = ao + j by omega] at hc
      have hmo := mod_any q 64 (by omega) (by omega) X
      have hmb := modC_bound q 64 (by omega)
      have hq0 : modC q 64 = h0 := by
        rw [HH.out]
        unfold hillH
        rw [if_neg (by rw [← HS.out.2.2]; omega), ← HS.out.2.2, ← hj, List.getD_eq_getElem?_getD, hq]
        rfl
      rw [hq0] at hmo hmb
      have HM := hide (And.intro hmo hmb)
      clear hc0 hj hne hq e0 hmo hmb hq0
      go_wp2_with (go_at_call 63; refine HM.out.1.mono ?_; rintro e W ⟨rfl, hW⟩; obtain rfl : X = W := hW.symm)
      go_meet
      case rel => exact ⟨rfl, Below.refl _ X⟩
    · have i1 : ¬ (0 : Int) < (M : Int) := by omega
      have hz : h0 = 0 := by rw [HH.out]; unfold hillH; rw [if_pos (by rw [← HS.out.2.2]; omega)]
      have HZ0 := hide hz
      clear hz
      go_wp2
      go_meet
      case rel => exact ⟨by rw [HZ0.out], Below.refl _ X⟩
  case rest =>
  obtain ⟨rfl, hB⟩ := hcut
  obtain ⟨Y, rfl⟩ : ∃ W, W = wc := ⟨_, rfl⟩
  have hbY := HX.out.1.below hB HX.out.1.lt
  have f0 := hbY.frozen 0
  have f1 := hbY.frozen 1
  have f2 := hbY.frozen 2
  have c0 : Y.cell? ⟨pb, 0, none⟩ = some (.int .i64 0) := hbY.cell 0
  have c1 : Y.cell? ⟨pb, 1, none⟩ = some (.int .i64 0) := hbY.cell 1
  have c2 : Y.cell? ⟨pb, 2, none⟩ = some (.int .i64 0) := hbY.cell 2
  have hlt := hbY.lt
  have HY := hide (And.intro hbY (HX.out.2.1.trans (hB.mono HX.out.2.1.size)))
  clear hbY hB
  go_wp2
  refine ret_at (v := vP ((x : Int) * 8, (y : Int) * 8, 100 + h0)) (fun W => Blk W pb 41 #[.int .i64 ((x : Int) * 8), .int .i64 ((y : Int) * 8), .int .i64 (100 + h0)]) ?_ (fun W hW => ?_) rfl ⟨rfl, ?_⟩
  · exact HY.out.1.set3 _ _ _
  · obtain ⟨a0, a1, a2⟩ := hW.three
    simp [results, Tryz.results78, go_sem, a0, a1, a2]
  · exact ((HY.out.2.setCell (p := ⟨pb, 0, none⟩) HX.out.2.2 _).setCell (p := ⟨pb, 1, none⟩) HX.out.2.2 _).setCell (p := ⟨pb, 2, none⟩) HX.out.2.2 _
end Go.Proofs.YtelfnmohpjkilaaGreatDoor
namespace Go.Proofs.YtelfnmohpjkilaaGreatDoor
open Go.RowKit Go.Sort
def hillQ (ns : List Int) (x y : Nat) : List Tri := quadP (hillV ns x y) (hillV ns (x + 1) y) (hillV ns (x + 1) (y + 1)) (hillV ns x (y + 1))
def rowT (ns : List Int) (y k : Nat) : List Tri := (List.range k).flatMap fun x => hillQ ns x y
def hillsT (ns : List Int) (K k : Nat) : List Tri := (List.range k).flatMap fun y => rowT ns y K
theorem rowT_succ (ns : List Int) (y k : Nat) : rowT ns y (k + 1) = rowT ns y k ++ hillQ ns k y := by
  unfold rowT
  rw [List.range_succ, List.flatMap_append]
  simp
theorem hillsT_succ (ns : List Int) (K k : Nat) : hillsT ns K (k + 1) = hillsT ns K k ++ rowT ns k K := by
  unfold hillsT
  rw [List.range_succ, List.flatMap_append]
  simp
def HlsR (w w' : World) (ns : List Int) (K : Nat) (v : Value) : Prop := Own encT 9 58 w' w.heap.size v (hillsT ns K K).length (hillsT ns K K) ∧ (hillsT ns K K).length ≤ 72 ∧ (∀ t ∈ hillsT ns K K, fitsT t) ∧ Below w.heap.size w w'
set_option maxRecDepth 100000 in
set_option maxHeartbeats 32000000 in
theorem hills_is (n0 : Nat) (A : Option Addr) (c : Nat) (ns : List Int) (w : World) (hs : ns ≠ [] → Sl encZ4 1 w w.heap.size A ns) (hl : ns.length ≤ 49) (hf : ∀ n ∈ ns, fits n) :
    Calls Tryz.prog 41 #[.int .i64 n0, .int .i64 8, .slice A ns.length c] w fun e w' => ∃ v, e = .returned v ∧ HlsR w w' ns ((modC n0 6).toNat + 1) v := by
  have hmo := mod_any n0 6 (by omega) (by omega) w
  have hmb := modC_bound n0 6 (by omega)
  obtain ⟨m6, hm6⟩ : ∃ m : Nat, (m : Int) = modC n0 6 := ⟨(modC n0 6).toNat, by omega⟩
  rw [← hm6] at hmo hmb
  obtain ⟨K, hK⟩ : ∃ K, K = m6 + 1 := ⟨_, rfl⟩
  have hKE : (modC n0 6).toNat + 1 = K := by omega
  rw [hKE]
  clear hKE
  have hK6 : K ≤ 6 := by omega
  have e1 : 1 + (m6 : Int) = (K : Int) := by omega
  have hhill : ∀ (x y : Nat), x ≤ 6 → y ≤ 6 → ∀ W, Below w.heap.size w W → Calls Tryz.prog 78 #[.int .i64 x, .int .i64 y, .int .i64 8, .slice A ns.length c] W fun e w' => ∃ p, e = .returned (vP p) ∧ (p = hillV ns x y ∧ fitsP p) ∧ Below W.heap.size W w' := fun x y hx hy W hW => (hill_is x y hx hy A c ns W (fun h => ((hs h).below hW).more hW.size) hl hf).mono fun e w' h => ⟨_, h.1, ⟨rfl, hillV_fits ns hx hy⟩, h.2⟩
  obtain ⟨M, hM⟩ : ∃ M, M = ns.length := ⟨_, rfl⟩
  simp only [← hM] at hhill ⊢
  have HH := hide hhill
  have HM := hide hmo
  clear hmo hhill hs hf hl hM hm6 hK
  go_enter Tryz.func41, Tryz.ntmps41
  go_upto_region 2 with (go_at_call 63; refine HM.out.mono ?_; rintro e W ⟨rfl, hW⟩; obtain rfl : w = W := hW.symm)
  go_wp2_with fail
  go_loopw [7, 8] (fun ov yv wr => ∃ (y m : Nat) (L : List Tri), (y ≤ K ∧ L = hillsT ns K y) ∧ yv = .int .i64 y ∧ Own encT 9 58 wr w.heap.size ov m L ∧ m ≤ 12 * y ∧ (∀ t ∈ L, fitsT t) ∧ Below w.heap.size w wr) (fun _ yv _ => K - (intOf yv).toNat)
  case atStart => exact ⟨0, 0, [], ⟨by omega, rfl⟩, rfl, Own.nil, by omega, (fun t h => by cases h), Below.refl _ w⟩
  case round =>
    obtain ⟨y, m, L, ⟨hy, hLe⟩, rfl, hown, hm, hfL, hB⟩ := hrel
    have HLe := hide hLe
    clear hLe
    obtain ⟨V, rfl⟩ : ∃ x, x = wr := ⟨_, rfl⟩
    by_cases hlt : y < K
    · have i1 : (y : Int) < (K : Int) := by omega
      have HV := hide (And.intro hown (And.intro hfL hB))
      clear hown hfL hB
      go_wp2_with fail
      go_loopw [7, 9] (fun ov xv wr => ∃ (x m2 : Nat) (L : List Tri), (x ≤ K ∧ L = hillsT ns K y ++ rowT ns y x) ∧ xv = .int .i64 x ∧ Own encT 9 58 wr w.heap.size ov m2 L ∧ m2 ≤ 12 * y + 2 * x ∧ (∀ t ∈ L, fitsT t) ∧ Below w.heap.size w wr) (fun _ xv _ => K - (intOf xv).toNat)
      case atStart => exact ⟨0, m, L, ⟨by omega, by rw [HLe.out]; simp [rowT]⟩, rfl, HV.out.1, by omega, HV.out.2.1, HV.out.2.2⟩
      case round =>
        clear HV
        obtain ⟨x, m2, L2, ⟨hx, hLx⟩, rfl, hown, hm2, hfL, hB⟩ := hrel
        have HLx := hide hLx
        clear hLx
        obtain ⟨T0, rfl⟩ : ∃ x, x = wr := ⟨_, rfl⟩
        by_cases hlx : x < K
        · have i2 : (x : Int) < (K : Int) := by omega
          obtain ⟨x1, hx1⟩ : ∃ a, a = x + 1 := ⟨_, rfl⟩
          obtain ⟨y1, hy1⟩ : ∃ a, a = y + 1 := ⟨_, rfl⟩
          have e2 : (x : Int) + 1 = (x1 : Int) := by omega
          have e3 : (y : Int) + 1 = (y1 : Int) := by omega
          have bx1 : x1 ≤ 6 := by omega
          have by1 : y1 ≤ 6 := by omega
          have HX1 := hide (And.intro hx1 hy1)
          clear hx1 hy1
          have HT0 := hide (And.intro hown (And.intro hfL hB))
          have HK0 := hide (show Below T0.heap.size T0 T0 ∧ True from ⟨Below.refl _ _, trivial⟩)
          clear hown hfL hB
          go_upto_region 10 with (go_at_call 78; refine (HH.out x y (by omega) (by omega) T0 (HT0.out.2.2.trans (HK0.out.1.mono HT0.out.2.2.size))).mono ?_; rintro e u0 ⟨⟨a1, a2, a3⟩, rfl, hfpa, hBa⟩; have HC0 := hide (And.intro hfpa hBa); clear hfpa hBa)
          obtain ⟨ga, hga⟩ : ∃ g, g = u0.heap.size := ⟨_, rfl⟩
          obtain ⟨T1, hT1⟩ : ∃ W, W = u0.alloc (.cells #[.int .i64 a1, .int .i64 a2, .int .i64 a3] 41) := ⟨_, rfl⟩
          rw [← hT1, ← hga]
          have hBn : Below T0.heap.size T0 T1 := by rw [hT1]; exact HC0.out.2.alloc HC0.out.2.size _
          have hbn : Blk T1 ga 41 #[.int .i64 a1, .int .i64 a2, .int .i64 a3] := by rw [hT1, hga]; exact Blk.new _ _ _
          have HK1 := hide (And.intro (HK0.out.1.trans (hBn.mono HK0.out.1.size)) (And.intro hbn trivial))
          clear hBn hbn hT1 hga 
          go_upto_region 11 with (go_at_call 78; refine (HH.out x1 y bx1 (by omega) T1 (HT0.out.2.2.trans (HK1.out.1.mono HT0.out.2.2.size))).mono ?_; rintro e u1 ⟨⟨b1, b2, b3⟩, rfl, hfpb, hBb⟩; have HC1 := hide (And.intro hfpb hBb); clear hfpb hBb)
          obtain ⟨gb, hgb⟩ : ∃ g, g = u1.heap.size := ⟨_, rfl⟩
          obtain ⟨T2, hT2⟩ : ∃ W, W = u1.alloc (.cells #[.int .i64 b1, .int .i64 b2, .int .i64 b3] 41) := ⟨_, rfl⟩
          rw [← hT2, ← hgb]
          have hBn : Below T1.heap.size T1 T2 := by rw [hT2]; exact HC1.out.2.alloc HC1.out.2.size _
          have hbn : Blk T2 gb 41 #[.int .i64 b1, .int .i64 b2, .int .i64 b3] := by rw [hT2, hgb]; exact Blk.new _ _ _
          have hba := HK1.out.2.1.below hBn HK1.out.2.1.lt
          have HK2 := hide (And.intro (HK1.out.1.trans (hBn.mono HK1.out.1.size)) (And.intro hba (And.intro hbn trivial)))
          clear hBn hbn hT2 hgb hba
          go_upto_region 12 with (go_at_call 78; refine (HH.out x1 y1 bx1 by1 T2 (HT0.out.2.2.trans (HK2.out.1.mono HT0.out.2.2.size))).mono ?_; rintro e u2 ⟨⟨c1, c2, c3⟩, rfl, hfpc, hBc⟩; have HC2 := hide (And.intro hfpc hBc); clear hfpc hBc)
          obtain ⟨gc, hgc⟩ : ∃ g, g = u2.heap.size := ⟨_, rfl⟩
          obtain ⟨T3, hT3⟩ : ∃ W, W = u2.alloc (.cells #[.int .i64 c1, .int .i64 c2, .int .i64 c3] 41) := ⟨_, rfl⟩
          rw [← hT3, ← hgc]
          have hBn : Below T2.heap.size T2 T3 := by rw [hT3]; exact HC2.out.2.alloc HC2.out.2.size _
          have hbn : Blk T3 gc 41 #[.int .i64 c1, .int .i64 c2, .int .i64 c3] := by rw [hT3, hgc]; exact Blk.new _ _ _
          have hba := HK2.out.2.1.below hBn HK2.out.2.1.lt
          have hbb := HK2.out.2.2.1.below hBn HK2.out.2.2.1.lt
          have HK3 := hide (And.intro (HK2.out.1.trans (hBn.mono HK2.out.1.size)) (And.intro hba (And.intro hbb (And.intro hbn trivial))))
          clear hBn hbn hT3 hgc hba hbb
          go_upto_region 13 with (go_at_call 78; refine (HH.out x y1 (by omega) by1 T3 (HT0.out.2.2.trans (HK3.out.1.mono HT0.out.2.2.size))).mono ?_; rintro e u3 ⟨⟨d1, d2, d3⟩, rfl, hfpd, hBd⟩; have HC3 := hide (And.intro hfpd hBd); clear hfpd hBd)
          obtain ⟨gd, hgd⟩ : ∃ g, g = u3.heap.size := ⟨_, rfl⟩
          obtain ⟨T4, hT4⟩ : ∃ W, W = u3.alloc (.cells #[.int .i64 d1, .int .i64 d2, .int .i64 d3] 41) := ⟨_, rfl⟩
          rw [← hT4, ← hgd]
          have hBn : Below T3.heap.size T3 T4 := by rw [hT4]; exact HC3.out.2.alloc HC3.out.2.size _
          have hbn : Blk T4 gd 41 #[.int .i64 d1, .int .i64 d2, .int .i64 d3] := by rw [hT4, hgd]; exact Blk.new _ _ _
          have hba := HK3.out.2.1.below hBn HK3.out.2.1.lt
          have hbb := HK3.out.2.2.1.below hBn HK3.out.2.2.1.lt
          have hbc := HK3.out.2.2.2.1.below hBn HK3.out.2.2.2.1.lt
          have HK4 := hide (And.intro (HK3.out.1.trans (hBn.mono HK3.out.1.size)) (And.intro hba (And.intro hbb (And.intro hbc (And.intro hbn trivial)))))
          clear hBn hbn hT4 hgd hba hbb hbc
          have la0 : T4.cell? ⟨ga, 0, none⟩ = some (.int .i64 a1) := HK4.out.2.1.cell 0
          have la1 : T4.cell? ⟨ga, 1, none⟩ = some (.int .i64 a2) := HK4.out.2.1.cell 1
          have la2 : T4.cell? ⟨ga, 2, none⟩ = some (.int .i64 a3) := HK4.out.2.1.cell 2
          have lb0 : T4.cell? ⟨gb, 0, none⟩ = some (.int .i64 b1) := HK4.out.2.2.1.cell 0
          have lb1 : T4.cell? ⟨gb, 1, none⟩ = some (.int .i64 b2) := HK4.out.2.2.1.cell 1
          have lb2 : T4.cell? ⟨gb, 2, none⟩ = some (.int .i64 b3) := HK4.out.2.2.1.cell 2
          have lc0 : T4.cell? ⟨gc, 0, none⟩ = some (.int .i64 c1) := HK4.out.2.2.2.1.cell 0
          have lc1 : T4.cell? ⟨gc, 1, none⟩ = some (.int .i64 c2) := HK4.out.2.2.2.1.cell 1
          have lc2 : T4.cell? ⟨gc, 2, none⟩ = some (.int .i64 c3) := HK4.out.2.2.2.1.cell 2
          have ld0 : T4.cell? ⟨gd, 0, none⟩ = some (.int .i64 d1) := HK4.out.2.2.2.2.1.cell 0
          have ld1 : T4.cell? ⟨gd, 1, none⟩ = some (.int .i64 d2) := HK4.out.2.2.2.2.1.cell 1
          have ld2 : T4.cell? ⟨gd, 2, none⟩ = some (.int .i64 d3) := HK4.out.2.2.2.2.1.cell 2
          have hz := HK4.out.1.size
          have hzw := HT0.out.2.2.size
          have hO4 := HT0.out.1.below HK4.out.1 (Nat.le_refl _)
          have hB4 := HT0.out.2.2.trans (HK4.out.1.mono hzw)
          have hfq := quad_fits HC0.out.1.2 HC1.out.1.2 HC2.out.1.2 HC3.out.1.2
          have hqd : quadP (a1, a2, a3) (b1, b2, b3) (c1, c2, c3) (d1, d2, d3) = hillQ ns x y := by rw [HC0.out.1.1, HC1.out.1.1, HC2.out.1.1, HC3.out.1.1, HX1.out.1, HX1.out.2]; rfl
          have H4 := hide (And.intro hO4 (And.intro hB4 hfq))
          have HQd := hide hqd
          clear hqd
          have hlta := HK4.out.2.1.lt
          have hltb := HK4.out.2.2.1.lt
          have hltc := HK4.out.2.2.2.1.lt
          have hltd := HK4.out.2.2.2.2.1.lt
          clear hO4 hB4 hfq HC0 HC1 HC2 HC3 HK0 HK1 HK2 HK3 HK4
          go_wp2_with (first | (at_builtin; refine wpList_appendS rfl _ _ _ rfl Tryz.underlying28 infoT rfl (by omega) encT_len encT_one rfl (H4.out.1.below H5.out.2 (Nat.le_refl _)) A5 c5 u5.heap.size (quadP ((a1, a2, a3)) ((b1, b2, b3)) ((c1, c2, c3)) ((d1, d2, d3))) rfl (H5.out.1.sl encT_len (Nat.le_refl _)) (by unfold maxLen; simp [quadP]; omega) (by simp [quadP]; omega) (by have := H5.out.2.size; have := H4.out.2.1.size; omega) ?_; intro v6 w6 ho6 hg6 hB6 hat6; have H6 := hide (And.intro ho6 (H4.out.2.1.trans ((H5.out.2.mono H4.out.2.1.size).trans hB6))); clear ho6 hg6 hB6 hat6) | (go_at_call 79; refine (quad_any ((a1, a2, a3)) ((b1, b2, b3)) ((c1, c2, c3)) ((d1, d2, d3)) T4).mono ?_; rintro e u5 ⟨v5, rfl, ho, hB⟩; obtain ⟨A5, c5, rfl⟩ := ho.form; have H5 := hide (And.intro ho hB); clear ho hB))
          go_roundw
          case rel => exact ⟨x + 1, m2 + 2, L2 ++ quadP ((a1, a2, a3)) ((b1, b2, b3)) ((c1, c2, c3)) ((d1, d2, d3)), ⟨by omega, by rw [HQd.out, HLx.out, rowT_succ, List.append_assoc]⟩, by go_num, H6.out.1, by omega, (fun t ht => by
            rcases List.mem_append.1 ht with h | h
            · exact HT0.out.2.1 t h
            · exact H4.out.2.2 t h), H6.out.2⟩
          case measure => (simp [intOf]; try omega)
        · obtain rfl : x = K := by omega
          have i2 : ¬ (x : Int) < (x : Int) := by omega
          have HT0 := hide (And.intro hown (And.intro hfL hB))
          clear hown hfL hB
          go_wp2
          go_roundw
          case rel => exact ⟨y + 1, m2, L2, ⟨by omega, by rw [HLx.out, hillsT_succ]⟩, by go_num, HT0.out.1, by omega, HT0.out.2.1, HT0.out.2.2⟩
          case measure => (simp [intOf]; try omega)
    · obtain rfl : y = K := by omega
      have i1 : ¬ (y : Int) < (y : Int) := by omega
      have hml := hown.1
      have hres : HlsR w V ns y _ := ⟨by rw [← HLe.out, ← hml]; exact hown, by rw [← HLe.out]; omega, by rw [← HLe.out]; exact hfL, hB⟩
      have HRes := hide hres
      clear hown hfL hB hres
      go_wp2
      go_ret
      exact ⟨_, rfl, HRes.out⟩
end Go.Proofs.YtelfnmohpjkilaaGreatDoor
namespace Go.Proofs.YtelfnmohpjkilaaGreatDoor
open Go.RowKit Go.Sort
theorem setMany_same {l : List Value} {o : Nat} {u a b : Value} (ha : l[o + 1]? = some a) (hb : l[o + 2]? = some b) : setMany l o [u, a, b] = l.set o u := by
  simp only [setMany]
  have h1 : (l.set o u).set (o + 1) a = l.set o u := by
    apply List.ext_getElem?
    intro n
    rw [List.getElem?_set]
    split
    · rename_i h
      subst h
      rw [List.getElem?_set_ne (by omega), ha]
      rw [if_pos (by rw [List.length_set]; exact (List.getElem?_eq_some_iff.1 ha).1)]
    · rfl
  rw [h1]
  apply List.ext_getElem?
  intro n
  rw [List.getElem?_set]
  split
  · rename_i h
    subst h
    rw [if_pos (by rw [List.length_set]; have := (List.getElem?_eq_some_iff.1 hb).1; omega), List.getElem?_set_ne (by omega)]
    exact hb.symm
  · rfl
/-- The first coordinate of a triangle is set. -/
theorem own_set1 {e : TypeId} {w : World} {base n cap g i : Nat} {xs : List Tri} {t : Tri} (h : Own encT 9 e w base (.slice (some ⟨g, 0, none⟩) n cap) n xs) (hi : xs[i]? = some t) (x : Int) :
    Own encT 9 e (w.setCell ⟨g, i * 9, none⟩ (.int .i64 x)) base (.slice (some ⟨g, 0, none⟩) n cap) n (xs.set i ((x, t.1.2), t.2)) := by
  have hil : i < xs.length := (List.getElem?_eq_some_iff.1 hi).1
  have hn := h.1
  have hf := flat_put hi (show 0 < 3 by omega) (x, t.1.2)
  have e1 : putC t 0 (x, t.1.2) = ((x, t.1.2), t.2) := rfl
  rw [e1] at hf
  have ha := flat_get encT_len xs i t hi 1 (.int .i64 t.1.2.1) rfl
  have hb := flat_get encT_len xs i t hi 2 (.int .i64 t.1.2.2) rfl
  have e2 := setMany_same (l := xs.flatMap encT) (o := i * 9) (u := .int .i64 x) ha hb
  exact own_many (vs := [.int .i64 x]) encT_len h (by simp) (by show i * 9 + 1 ≤ n * 9; omega) (by rw [hf]; exact e2)
theorem grown1 (w : World) (g o : Nat) (v : Value) : w.grownBy (w.setCell ⟨g, o, none⟩ v) (some g) := setW_grown g [v] w o
theorem Elems.put {e : TypeId} {w : World} {base g m c q : Nat} {t : Tri} {p : List Tri} (x : Int) (ht : p[q]? = some t) : ∀ {k : Nat} {ss : List Hdr} {ps : List (List Tri)}, Elems encT 9 e w base ss ps → ss.Pairwise Apart2 → ss[k]? = some (some ⟨g, 0, none⟩, m, c) → ps[k]? = some p →
    Elems encT 9 e (w.setCell ⟨g, q * 9, none⟩ (.int .i64 x)) base ss (ps.set k (p.set q ((x, t.1.2), t.2)))
  | 0, s :: ss, p0 :: ps, h, hd, hs, hp => by
    simp at hs hp
    subst hs hp
    obtain ⟨h1, h2⟩ := List.pairwise_cons.1 hd
    refine ⟨⟨by rw [List.length_set]; exact h.1.1, ?_⟩, h.2.imp fun r hr _ ho => ho.kept (grown1 _ _ _ _) (.inr (h1 r hr g rfl))⟩
    have hm : m = p0.length := h.1.1
    have ho := h.1.2
    subst hm
    rw [List.length_set]
    exact own_set1 ho ht x
  | k + 1, s :: ss, p0 :: ps, h, hd, hs, hp => by
    obtain ⟨h1, h2⟩ := List.pairwise_cons.1 hd
    have hs' : ss[k]? = some (some ⟨g, 0, none⟩, m, c) := by simpa using hs
    have hmem := List.mem_of_getElem? hs'
    refine ⟨⟨h.1.1, h.1.2.kept (grown1 _ _ _ _) (.inr fun he => h1 _ hmem g he rfl)⟩, ?_⟩
    exact Elems.put x ht (k := k) h.2 h2 hs' (by simpa using hp)
  | _, [], [], _, _, hs, _ => by simp at hs
  | _, [], _ :: _, h, _, _, _ => h.elim
  | _, _ :: _, [], h, _, _, _ => h.elim
/-- Pieces with their headers. -/
def PcsK (e te : TypeId) (w : World) (base : Nat) (v : Value) (ss : List Hdr) (ps : List (List Tri)) : Prop :=
  Own encS 1 te w base v ps.length ss ∧ Elems encT 9 e w base ss ps ∧ ss.Pairwise Apart2
theorem PcsK.put {e te : TypeId} {w : World} {base g m c q k : Nat} {v : Value} {ss : List Hdr} {ps : List (List Tri)} {t : Tri} {p : List Tri} (hte : te ≠ e) (h : PcsK e te w base v ss ps) (hs : ss[k]? = some (some ⟨g, 0, none⟩, m, c)) (hp : ps[k]? = some p) (ht : p[q]? = some t) (x : Int) :
    PcsK e te (w.setCell ⟨g, q * 9, none⟩ (.int .i64 x)) base v ss (ps.set k (p.set q ((x, t.1.2), t.2))) := by
  obtain ⟨h1, h2, h3⟩ := h
  refine ⟨?_, h2.put x ht h3 hs hp, h3⟩
  rw [List.length_set]
  refine h1.step (grown1 _ _ _ _) fun r hr => .inr fun cs hc => ?_
  cases hr
  obtain ⟨A, c', e1, ho⟩ := h2.at hp
  rw [hs] at e1
  cases e1
  obtain ⟨cs', hc'⟩ := ho.cells g rfl
  rw [hc] at hc'
  cases hc'
  exact hte rfl
theorem PcsK.drew {e te : TypeId} {w : World} {base : Nat} {v : Value} {ss : List Hdr} {ps : List (List Tri)} (h : PcsK e te w base v ss ps) : PcsK e te w.drew base v ss ps :=
  ⟨h.1.drew, h.2.1.imp fun _ _ _ ho => ho.drew, h.2.2⟩
theorem PcsK.hdr {e te : TypeId} {w : World} {base n cap : Nat} {A : Option Addr} {ss : List Hdr} {ps : List (List Tri)} {k : Nat} {s : Hdr} (h : PcsK e te w base (.slice A n cap) ss ps) (hs : ss[k]? = some s) :
    ∃ b o, A = some ⟨b, o, none⟩ ∧ b < w.heap.size ∧ w.cell? ⟨b, o + k, none⟩ = some (.slice s.1 s.2.1 s.2.2) := by
  have ho := h.1
  obtain ⟨A2, c2, e2⟩ := ho.form
  obtain ⟨rfl, rfl, rfl⟩ : A = A2 ∧ n = ps.length ∧ cap = c2 := by simpa using e2
  obtain ⟨b, o, hA, hb, hc⟩ := (ho.sl encS_len (Nat.le_refl _)).at hs
  have h0 := hc 0 _ rfl
  rw [Nat.mul_one, Nat.add_zero] at h0
  exact ⟨b, o, hA, hb, h0⟩
end Go.Proofs.YtelfnmohpjkilaaGreatDoor
namespace Go.Proofs.YtelfnmohpjkilaaGreatDoor
open Go.RowKit Go.Sort
/-- The first q corners turned where they are p. -/
def repQ (p z : Pt) (q : Nat) (t : Tri) : Tri := (if 0 < q ∧ t.1 = p then z else t.1, if 1 < q ∧ t.2.1 = p then z else t.2.1, if 2 < q ∧ t.2.2 = p then z else t.2.2)
def spoilC (s k _j : Nat) (t u : Tri) (L : List Tri) : List Tri :=
  match s with
  | 0 => L.take k ++ L.drop (k + 1)
  | 1 => L.set k (t.1, t.2.2, t.2.1)
  | 2 => L ++ [u]
  | 3 => L.set k (putC t 0 u.2.1)
  | 4 => L.set k (putC t 1 t.1)
  | 5 => L ++ [(t.1, t.2.2, t.2.1)]
  | 6 => L.map (repQ u.2.2 t.1 3)
  | 7 => L.take (k + 1)
  | 8 => L.set k (t.2.2, t.1, t.2.1)
  | _ => L
def spoilT (q0 q1 q2 : Int) (L : List Tri) : List Tri :=
  if L.length = 0 then [] else
    spoilC (modC q0 12).toNat (modC q1 L.length).toNat (modC q2 L.length).toNat (L.getD (modC q1 L.length).toNat ((0, 0, 0), (0, 0, 0), (0, 0, 0))) (L.getD (modC q2 L.length).toNat ((0, 0, 0), (0, 0, 0), (0, 0, 0))) L
/-- In the midst of the replacement: the first i triangles and q corners of the next. -/
def RepR (L : List Tri) (p z : Pt) (i q : Nat) (M : List Tri) : Prop := M.length = L.length ∧ ∀ n x, L[n]? = some x → M[n]? = some (if n < i then repQ p z 3 x else if n = i then repQ p z q x else x)
theorem repQ_0 (p z : Pt) (t : Tri) : repQ p z 0 t = t := by simp [repQ]
theorem RepR.start (L : List Tri) (p z : Pt) : RepR L p z 0 0 L := ⟨rfl, fun n x h => by
  rw [h, if_neg (by omega), repQ_0]
  simp⟩
theorem RepR.next {L M : List Tri} {p z : Pt} {i : Nat} (h : RepR L p z i 3 M) : RepR L p z (i + 1) 0 M := ⟨h.1, fun n x hn => by
  rw [h.2 n x hn, repQ_0]
  congr 1
  rcases Nat.lt_trichotomy n i with h1 | h1 | h1
  · rw [if_pos h1, if_pos (by omega)]
  · rw [if_neg (by omega), if_pos h1, if_pos (by omega)]
  · rw [if_neg (by omega), if_neg (by omega), if_neg (by omega)]; simp⟩
theorem RepR.done {L M : List Tri} {p z : Pt} (h : RepR L p z L.length 0 M) : M = L.map (repQ p z 3) := by
  apply List.ext_getElem?
  intro n
  rw [List.getElem?_map]
  cases hn : L[n]? with
  | none =>
    have : L.length ≤ n := List.getElem?_eq_none_iff.1 hn
    rw [Option.map_none]
    exact List.getElem?_eq_none (by rw [h.1]; exact this)
  | some x =>
    rw [h.2 n x hn, if_pos (List.getElem?_eq_some_iff.1 hn).1]
    rfl
theorem RepR.hit {L M : List Tri} {p z : Pt} {i q : Nat} {y : Tri} (h : RepR L p z i q M) (hq : q < 3) (hy : M[i]? = some y) (hc : corner y q = p) : RepR L p z i (q + 1) (M.set i (putC y q z)) := by
  refine ⟨by rw [List.length_set]; exact h.1, fun n x hn => ?_⟩
  rw [List.getElem?_set]
  by_cases hni : i = n
  · subst hni
    have hl := (List.getElem?_eq_some_iff.1 hy).1
    rw [if_pos rfl, if_pos hl, if_neg (by omega), if_pos rfl]
    have e := h.2 i x hn
    rw [hy, if_neg (by omega), if_pos rfl] at e
    injection e with e
    subst e
    congr 1
    obtain ⟨x0, x1, x2⟩ := x
    have hqq : q = 0 ∨ q = 1 ∨ q = 2 := by omega
    rcases hqq with rfl | rfl | rfl
    · simp [corner, repQ] at hc
      simp [repQ, putC, hc]
    · simp [corner, repQ] at hc
      simp [repQ, putC, hc]
    · simp [corner, repQ] at hc
      simp [repQ, putC, hc]
  · rw [if_neg hni, h.2 n x hn]
    congr 1
    by_cases h1 : n < i
    · rw [if_pos h1, if_pos h1]
    · rw [if_neg h1, if_neg h1, if_neg (fun e => hni e.symm), if_neg (fun e => hni e.symm)]
theorem RepR.miss {L M : List Tri} {p z : Pt} {i q : Nat} {y : Tri} (h : RepR L p z i q M) (hq : q < 3) (hy : M[i]? = some y) (hc : corner y q ≠ p) : RepR L p z i (q + 1) M := by
  refine ⟨h.1, fun n x hn => ?_⟩
  rw [h.2 n x hn]
  congr 1
  by_cases h1 : n < i
  · rw [if_pos h1, if_pos h1]
  · rw [if_neg h1, if_neg h1]
    by_cases h2 : n = i
    · subst h2
      rw [if_pos rfl, if_pos rfl]
      have e := h.2 n x hn
      rw [hy, if_neg (by omega), if_pos rfl] at e
      injection e with e
      subst e
      obtain ⟨x0, x1, x2⟩ := x
      have hqq : q = 0 ∨ q = 1 ∨ q = 2 := by omega
      rcases hqq with rfl | rfl | rfl
      · simp [corner, repQ] at hc
        simp [repQ, hc]
      · simp [corner, repQ] at hc
        simp [repQ, hc]
      · simp [corner, repQ] at hc
        simp [repQ, hc]
    · rw [if_neg h2, if_neg h2]
/-- What Spoiled gives: its list, in memory of its own. -/
def SpoX (w w' : World) (R : List Tri) (N : Nat) (v : Value) : Prop := Own encT 9 58 w' w.heap.size v R.length R ∧ R.length ≤ N + 1 ∧ FitL R ∧ Below w.heap.size w w'
set_option maxRecDepth 100000 in
set_option maxHeartbeats 64000000 in
theorem spoiled_is (A : Option Addr) (c : Nat) (L : List Tri) (q0 q1 q2 : Int) (w : World) (hs : Sl encT 9 w w.heap.size A L) (hl : L.length ≤ 100000) (hf : FitL L) :
    Calls Tryz.prog 28 #[.slice A L.length c, .agg #[.int .i64 q0, .int .i64 q1, .int .i64 q2]] w fun e w' => ∃ v, e = .returned v ∧ SpoX w w' (spoilT q0 q1 q2 L) L.length v := by
  obtain ⟨R9, hR9⟩ : ∃ R, R = spoilT q0 q1 q2 L := ⟨_, rfl⟩
  rw [← hR9]
  have HR9 := hide hR9
  clear hR9
  obtain ⟨N, hN⟩ : ∃ N, N = L.length := ⟨_, rfl⟩
  rw [← hN] at hl ⊢
  have HS := hide (And.intro hs (And.intro hf hN))
  clear hs hf hN
  go_enter Tryz.func28, Tryz.ntmps28
  go_upto_region 1 with fail
  obtain ⟨qb, hqb⟩ : ∃ g, g = w.heap.size := ⟨_, rfl⟩
  obtain ⟨W0, hW0⟩ : ∃ W, W = w.alloc (.cells #[.int .i64 q0, .int .i64 q1, .int .i64 q2] 49) := ⟨_, rfl⟩
  rw [← hW0, ← hqb]
  have hbq : Blk W0 qb 49 #[.int .i64 q0, .int .i64 q1, .int .i64 q2] := by rw [hW0, hqb]; exact Blk.new _ _ _
  have hB0 : Below w.heap.size w W0 := by rw [hW0]; exact (Below.refl _ w).alloc (Nat.le_refl _) _
  have hz0 : qb < W0.heap.size := hbq.lt
  have hs0 : Sl encT 9 (W0.alloc (.cells #[] 58)) (W0.heap.size + 1) A L := (HS.out.1.below (hB0.alloc hB0.size (.cells #[] 58))).more (by have := hB0.size; omega)
  have ho0 : Own encT 9 58 (W0.alloc (.cells #[] 58)) W0.heap.size (.slice (some ⟨W0.heap.size, 0, none⟩) 0 0) 0 ([] : List Tri) := ⟨rfl, by simpa using World.ownsRow_lit (e := 58) (size := 9) W0 #[] 0 (Nat.le_refl _) (by unfold maxLen; omega) (by simp)⟩
  have H0 := hide (And.intro hbq (And.intro hB0 (And.intro hs0 (And.intro ho0 hz0))))
  clear hbq hB0 hs0 ho0 hz0 hW0 hqb
  go_upto_region 2 with (at_builtin; refine wpList_appendS rfl _ _ _ rfl Tryz.underlying28 infoT rfl (by omega) encT_len encT_one rfl H0.out.2.2.2.1 A c (W0.heap.size + 1) L (by rw [← HS.out.2.2]; rfl) H0.out.2.2.1 (by rw [← HS.out.2.2]; unfold maxLen; omega) (by rw [← HS.out.2.2]; omega) (by simp) ?_; intro v1 X ho1 hg1 hB1 hat1; have ho1' : Own encT 9 58 X W0.heap.size v1 N L := (by have h := ho1; rw [List.nil_append, Nat.zero_add, ← HS.out.2.2] at h; exact h); have hBX := (((Below.refl _ W0).alloc (Nat.le_refl _) _).trans hB1); have H1 := hide (And.intro ho1' hBX); clear ho1 ho1' hg1 hB1 hat1 hBX)
  by_cases hN0 : N = 0
  · have hR9 : R9 = L := by
      rw [HR9.out]
      unfold spoilT
      rw [if_pos (by rw [← HS.out.2.2]; exact hN0)]
      exact (List.eq_nil_of_length_eq_zero (by rw [← HS.out.2.2]; exact hN0)).symm
    have hR : SpoX w X R9 N v1 := by
     rw [hR9]
     exact ⟨by
      have h := H1.out.1.base_le H0.out.2.1.size
      rw [HS.out.2.2] at h
      exact h, by have := HS.out.2.2; omega, HS.out.2.1, H0.out.2.1.trans (H1.out.2.mono H0.out.2.1.size)⟩
    obtain ⟨A1, c1, rfl⟩ := H1.out.1.form
    have HR := hide hR
    have i1 : (N : Int) = 0 := by omega
    clear hR hN0 hR9
    go_wp2
    go_ret
    exact ⟨_, rfl, HR.out⟩
  have hLne : L ≠ [] := fun h => hN0 (by rw [HS.out.2.2, h]; rfl)
  obtain ⟨g, c1, rfl, hge, hgl⟩ := H1.out.1.at hLne
  have hNp : 0 < N := by omega
  have i1 : ¬ (N : Int) = 0 := by omega
  have hbq := H0.out.1.below H1.out.2 H0.out.2.2.2.2
  have hk := modC_bound q1 N (by omega)
  have hj := modC_bound q2 N (by omega)
  have hs12 := modC_bound q0 12 (by omega)
  obtain ⟨k, hk2⟩ : ∃ m : Nat, (m : Int) = modC q1 N := ⟨(modC q1 N).toNat, by omega⟩
  obtain ⟨j, hj2⟩ : ∃ m : Nat, (m : Int) = modC q2 N := ⟨(modC q2 N).toNat, by omega⟩
  obtain ⟨s, hs2⟩ : ∃ m : Nat, (m : Int) = modC q0 12 := ⟨(modC q0 12).toNat, by omega⟩
  have m1 := mod_any q1 N (by omega) (by omega) X
  have m2 := mod_any q2 N (by omega) (by omega) X
  have m3 := fun W => mod_any q0 12 (by omega) (by omega) W
  rw [← hk2] at m1 hk
  rw [← hj2] at m2 hj
  simp only [← hs2] at m3
  rw [← hs2] at hs12
  have hkN : k < N := by omega
  have hjN : j < N := by omega
  have hs12' : s < 12 := by omega
  obtain ⟨t, ht⟩ : ∃ t, L[k]? = some t := ⟨_, List.getElem?_eq_getElem (by rw [← HS.out.2.2]; exact hkN)⟩
  obtain ⟨u, hu⟩ : ∃ t, L[j]? = some t := ⟨_, List.getElem?_eq_getElem (by rw [← HS.out.2.2]; exact hjN)⟩
  have hft := HS.out.2.1 t (List.mem_of_getElem? ht)
  have hfu := HS.out.2.1 u (List.mem_of_getElem? hu)
  have x0 : X.cell? ⟨qb, 0, none⟩ = some (.int .i64 q0) := hbq.cell 0
  have x1 : X.cell? ⟨qb, 1, none⟩ = some (.int .i64 q1) := hbq.cell 1
  have x2 : X.cell? ⟨qb, 2, none⟩ = some (.int .i64 q2) := hbq.cell 2
  obtain ⟨⟨t1, t2, t3⟩, ⟨t4, t5, t6⟩, t7, t8, t9⟩ := t
  obtain ⟨⟨u1, u2, u3⟩, ⟨u4, u5, u6⟩, u7, u8, u9⟩ := u
  have hqlt := hbq.lt
  have hRc : R9 = spoilC s k j ((t1, t2, t3), (t4, t5, t6), t7, t8, t9) ((u1, u2, u3), (u4, u5, u6), u7, u8, u9) L := by
    have e1 : (modC q1 N).toNat = k := by rw [← hk2]; exact Int.toNat_natCast k
    have e2 : (modC q2 N).toNat = j := by rw [← hj2]; exact Int.toNat_natCast j
    have e3 : (modC q0 12).toNat = s := by rw [← hs2]; exact Int.toNat_natCast s
    rw [HR9.out]
    unfold spoilT
    rw [← HS.out.2.2, if_neg hN0, e1, e2, e3, List.getD_eq_getElem?_getD, List.getD_eq_getElem?_getD, ht, hu]
    rfl
  have HRc := hide hRc
  clear hRc
  have HT := hide (And.intro ht (And.intro hu (And.intro hft hfu)))
  have HMd := hide (And.intro m1 (And.intro m2 m3))
  have HN := hide (And.intro hge (And.intro hgl hbq))
  clear ht hu hft hfu m1 m2 m3 hk hj hk2 hj2 hs2 hs12 hbq hge hgl hLne hN0
  go_upto_region 5 with (go_at_call 63; refine HMd.out.1.mono ?_; rintro e W ⟨rfl, hW⟩; obtain rfl : X = W := hW.symm)
  go_upto_region 6 with (go_at_call 63; refine HMd.out.2.1.mono ?_; rintro e W ⟨rfl, hW⟩; obtain rfl : X = W := hW.symm)
  obtain ⟨b0, o0, hA, hbb, g0, g1, g2, g3, g4, g5, g6, g7, g8⟩ := (H1.out.1.sl encT_len (Nat.le_refl _)).tri HT.out.1
  cases hA
  simp only [Nat.zero_add] at g0 g1 g2 g3 g4 g5 g6 g7 g8
  go_upto_region 7 with fail
  clear g0 g1 g2 g3 g4 g5 g6 g7 g8 x1 x2 hbb
  obtain ⟨tb, htb⟩ : ∃ g, g = X.heap.size := ⟨_, rfl⟩
  obtain ⟨Z, hZ⟩ : ∃ W, W = X.alloc (.cells #[.int .i64 t1, .int .i64 t2, .int .i64 t3, .int .i64 t4, .int .i64 t5, .int .i64 t6, .int .i64 t7, .int .i64 t8, .int .i64 t9] 58) := ⟨_, rfl⟩
  rw [← hZ, ← htb]
  have hbt : Blk Z tb 58 #[.int .i64 t1, .int .i64 t2, .int .i64 t3, .int .i64 t4, .int .i64 t5, .int .i64 t6, .int .i64 t7, .int .i64 t8, .int .i64 t9] := by rw [hZ, htb]; exact Blk.new _ _ _
  have hOZ : Own encT 9 58 Z W0.heap.size (.slice (some ⟨g, 0, none⟩) N c1) N L := by rw [hZ]; exact H1.out.1.alloc _
  have hBZ : Below W0.heap.size W0 Z := by rw [hZ]; exact H1.out.2.alloc H1.out.2.size _
  have hqZ : Blk Z qb 49 #[.int .i64 q0, .int .i64 q1, .int .i64 q2] := by rw [hZ]; exact HN.out.2.2.alloc _
  have hgt : g ≠ tb := by have := HN.out.2.1; omega
  have x0 : Z.cell? ⟨qb, 0, none⟩ = some (.int .i64 q0) := hqZ.cell 0
  have hqlt := hqZ.lt
  have hWz : w.heap.size ≤ W0.heap.size := H0.out.2.1.size
  have htbz : W0.heap.size ≤ tb := by rw [htb]; exact H1.out.2.size
  have HZ := hide (And.intro hOZ (And.intro hbt (And.intro hBZ (And.intro hgt (And.intro hWz htbz)))))
  clear hbt hOZ hBZ hqZ hgt hZ htb hWz htbz
  go_upto_region 8 with (go_at_call 63; refine (HMd.out.2.2 Z).mono ?_; rintro e W ⟨rfl, hW⟩; obtain rfl : Z = W := hW.symm)
  clear x0 hqlt
  have hfin : ∀ (W : World) (v : Value) (M : List Tri) (m : Nat), Own encT 9 58 W W0.heap.size v m M → M.length ≤ N + 1 → FitL M → Below W0.heap.size W0 W → R9 = M → SpoX w W R9 N v := fun W v M m h1 h2 h3 h4 h5 => by
    rw [h5]
    exact ⟨by
     have h := h1.base_le HZ.out.2.2.2.2.1
     rw [h.1] at h
     exact h, h2, h3, H0.out.2.1.trans (h4.mono HZ.out.2.2.2.2.1)⟩
  have HFn := hide hfin
  clear hfin
  have hc : s = 0 ∨ s = 1 ∨ s = 2 ∨ s = 3 ∨ s = 4 ∨ s = 5 ∨ s = 6 ∨ s = 7 ∨ s = 8 ∨ s = 9 ∨ s = 10 ∨ s = 11 := by omega
  clear hs12'
  rcases hc with rfl | rfl | rfl | rfl | rfl | rfl | rfl | rfl | rfl | rfl | rfl | rfl
  · have hcap := HZ.out.1.place.1
    have hzZ := HZ.out.2.2.1.size
    have htk : (L.take k).length = k := by rw [List.length_take]; have := HS.out.2.2; omega
    obtain ⟨k1, hk1⟩ : ∃ m, m = k + 1 := ⟨_, rfl⟩
    have e1 : (k : Int) + 1 = (k1 : Int) := by omega
    have hk1N : k1 ≤ N := by omega
    have hkN2 : k ≤ N := by omega
    have hrunH : ∀ V : World, (Instr.slice 28 (.slice (some ⟨g, 0, none⟩) N c1) none (some (.int .i64 k)) none).run Tryz.prog V = .ok (.slice (some ⟨g, 0, none⟩) k c1) V := fun V => run_cutH Tryz.underlying28 Tryz.sizeOf58 hkN2 hcap V
    have hrunL : ∀ V : World, (Instr.slice 28 (.slice (some ⟨g, 0, none⟩) N c1) (some (.int .i64 k1)) none none).run Tryz.prog V = .ok (.slice (cutA (some ⟨g, 0, none⟩) c1 k1 9) (N - k1) (c1 - k1)) V := fun V => run_cut Tryz.underlying28 Tryz.sizeOf58 hk1N V
    have hsT : Sl encT 9 Z Z.heap.size (some ⟨g, 0, none⟩) (L.take k) := (HZ.out.1.sl encT_len (Nat.le_refl _)).take8 k
    have hdl : (L.drop k1).length = N - k1 := by rw [List.length_drop, ← HS.out.2.2]
    have HC := hide (And.intro hsT (And.intro htk (And.intro hdl hcap)))
    have HK1 := hide hk1
    clear hsT htk hdl hk1 hcap
    go_upto_region 11 with (at_builtin; refine wpList_appendS rfl _ _ _ rfl Tryz.underlying28 infoT rfl (by omega) encT_len encT_one rfl (show Own encT 9 58 Z W0.heap.size (.slice none 0 0) 0 ([] : List Tri) from Own.nil) (some ⟨g, 0, none⟩) c1 Z.heap.size (L.take k) (by rw [HC.out.2.1]; rfl) HC.out.1 (by rw [HC.out.2.1]; unfold maxLen; omega) (by rw [HC.out.2.1]; omega) hzZ ?_; intro v5 w5 ho5 hg5 hB5 hat5; have ho5b : Own encT 9 58 w5 W0.heap.size v5 k (L.take k) := (by have h := ho5; rw [List.nil_append, Nat.zero_add, HC.out.2.1] at h; exact h); obtain ⟨A5, c5, rfl⟩ := ho5b.form; have hO5 := HZ.out.1.kept hg5 (.inr (show (some g : Option Nat) ≠ none from fun h => by cases h)); have hs5 := (hO5.sl encT_len (Nat.le_refl _)).cut (i := k1) (by rw [← HS.out.2.2]; exact hk1N) (by rw [← HS.out.2.2]; exact HC.out.2.2.2); have H5 := hide (And.intro ho5b (And.intro hs5 (HZ.out.2.2.1.trans hB5))); clear ho5 ho5b hO5 hs5 hg5 hB5 hat5)
    have hz5 := H5.out.2.2.size
    go_wp2_with (at_builtin; refine wpList_appendS rfl _ _ _ rfl Tryz.underlying28 infoT rfl (by omega) encT_len encT_one rfl H5.out.1 (cutA (some ⟨g, 0, none⟩) c1 k1 9) (c1 - k1) w5.heap.size (L.drop k1) (by rw [HC.out.2.2.1]; rfl) H5.out.2.1 (by rw [HC.out.2.2.1]; unfold maxLen; omega) (by rw [HC.out.2.2.1]; omega) hz5 ?_; intro v6 w6 ho6 hg6 hB6 hat6; have h8 := HFn.out w6 v6 (L.take k ++ L.drop k1) _ ho6 (by rw [List.length_append, HC.out.2.1, HC.out.2.2.1]; omega) (FitL.app (fun t ht => HS.out.2.1 t (List.mem_of_mem_take ht)) (fun t ht => HS.out.2.1 t (List.mem_of_mem_drop ht))) (H5.out.2.2.trans hB6) (by rw [HRc.out, HK1.out]; rfl); have H8 := hide h8; clear h8 ho6 hg6 hB6 hat6)
    go_ret
    exact ⟨_, rfl, H8.out⟩
  · have x0 : Z.cell? ⟨tb, 0, none⟩ = some (.int .i64 t1) := HZ.out.2.1.cell 0
    have x1 : Z.cell? ⟨tb, 1, none⟩ = some (.int .i64 t2) := HZ.out.2.1.cell 1
    have x2 : Z.cell? ⟨tb, 2, none⟩ = some (.int .i64 t3) := HZ.out.2.1.cell 2
    have x3 : Z.cell? ⟨tb, 3, none⟩ = some (.int .i64 t4) := HZ.out.2.1.cell 3
    have x4 : Z.cell? ⟨tb, 4, none⟩ = some (.int .i64 t5) := HZ.out.2.1.cell 4
    have x5 : Z.cell? ⟨tb, 5, none⟩ = some (.int .i64 t6) := HZ.out.2.1.cell 5
    have x6 : Z.cell? ⟨tb, 6, none⟩ = some (.int .i64 t7) := HZ.out.2.1.cell 6
    have x7 : Z.cell? ⟨tb, 7, none⟩ = some (.int .i64 t8) := HZ.out.2.1.cell 7
    have x8 : Z.cell? ⟨tb, 8, none⟩ = some (.int .i64 t9) := HZ.out.2.1.cell 8
    obtain ⟨b0, o0, hA, hbb, g0, g1, g2, g3, g4, g5, g6, g7, g8⟩ := (HZ.out.1.sl encT_len (Nat.le_refl _)).tri HT.out.1
    cases hA
    simp only [Nat.zero_add] at g0 g1 g2 g3 g4 g5 g6 g7 g8
    obtain ⟨cs, hcs⟩ := HZ.out.1.cells g rfl
    have hbg : Blk Z g 58 cs := hcs
    have f0 : Z.frozen? ⟨g, k * 9, none⟩ = false := hbg.frozen _
    have f1 : Z.frozen? ⟨g, k * 9 + 1, none⟩ = false := hbg.frozen _
    have f2 : Z.frozen? ⟨g, k * 9 + 2, none⟩ = false := hbg.frozen _
    have f3 : Z.frozen? ⟨g, k * 9 + 3, none⟩ = false := hbg.frozen _
    have f4 : Z.frozen? ⟨g, k * 9 + 4, none⟩ = false := hbg.frozen _
    have f5 : Z.frozen? ⟨g, k * 9 + 5, none⟩ = false := hbg.frozen _
    have f6 : Z.frozen? ⟨g, k * 9 + 6, none⟩ = false := hbg.frozen _
    have f7 : Z.frozen? ⟨g, k * 9 + 7, none⟩ = false := hbg.frozen _
    have f8 : Z.frozen? ⟨g, k * 9 + 8, none⟩ = false := hbg.frozen _
    have hgl := hbg.lt
    have htl := HZ.out.2.1.lt
    clear hcs hbg
    have h8 := fun W (h : W = setW Z g (k * 9) (encT ((t1, t2, t3), (t7, t8, t9), t4, t5, t6))) => HFn.out W (.slice (some ⟨g, 0, none⟩) N c1) (L.set k ((t1, t2, t3), (t7, t8, t9), t4, t5, t6)) N (by rw [h]; exact HZ.out.1.setW encT_len (by rw [← HS.out.2.2]; exact hkN) ((t1, t2, t3), (t7, t8, t9), t4, t5, t6)) (by rw [List.length_set]; have := HS.out.2.2; omega) (HS.out.2.1.set k ⟨HT.out.2.2.1.1, HT.out.2.2.1.2.2, HT.out.2.2.1.2.1⟩) (by rw [h]; exact below_setW HZ.out.2.2.1 (by have := (HZ.out.1.blk g rfl).1; omega) _ _) (by rw [HRc.out]; rfl)
    have H8 := hide h8
    clear h8
    go_wp2
    go_ret
    exact ⟨_, rfl, H8.out _ rfl⟩
  · have hzZ := HZ.out.2.2.1.size
    obtain ⟨b0, o0, hA, hbb, g0, g1, g2, g3, g4, g5, g6, g7, g8⟩ := (HZ.out.1.sl encT_len (Nat.le_refl _)).tri HT.out.2.1
    cases hA
    simp only [Nat.zero_add] at g0 g1 g2 g3 g4 g5 g6 g7 g8
    go_wp2_with (at_builtin; refine wpList_append1 rfl _ _ _ rfl Tryz.underlying28 infoT rfl (by omega) encT_len encT_one rfl (HZ.out.1.alloc _) Z.heap.size 1 ((u1, u2, u3), (u4, u5, u6), u7, u8, u9) rfl (Blk.new _ _ _) (by unfold maxLen; omega) (by omega) (by simp; omega) ?_; intro g5 cap5 w5 hown5 hg5 hB5 hat5 hgb5 hlt5; have h8 := HFn.out w5 _ (L ++ [((u1, u2, u3), (u4, u5, u6), u7, u8, u9)]) (N + 1) hown5 (by rw [List.length_append]; have := HS.out.2.2; simp; omega) (HS.out.2.1.app (fun t ht => by rw [List.mem_singleton] at ht; subst ht; exact HT.out.2.2.2)) ((HZ.out.2.2.1.alloc hzZ _).trans hB5) (by rw [HRc.out]; rfl); have H8 := hide h8; clear h8 hown5 hg5 hB5 hat5 hgb5 hlt5)
    go_ret
    exact ⟨_, rfl, H8.out⟩
  · obtain ⟨b0, o0, hA, hbb, g0, g1, g2, g3, g4, g5, g6, g7, g8⟩ := (HZ.out.1.sl encT_len (Nat.le_refl _)).tri HT.out.1
    cases hA
    simp only [Nat.zero_add] at g0 g1 g2 g3 g4 g5 g6 g7 g8
    obtain ⟨cs, hcs⟩ := HZ.out.1.cells g rfl
    have hbg : Blk Z g 58 cs := hcs
    have f0 : Z.frozen? ⟨g, k * 9, none⟩ = false := hbg.frozen _
    have f1 : Z.frozen? ⟨g, k * 9 + 1, none⟩ = false := hbg.frozen _
    have f2 : Z.frozen? ⟨g, k * 9 + 2, none⟩ = false := hbg.frozen _
    have hgl := hbg.lt
    have htl := HZ.out.2.1.lt
    clear hcs hbg
    obtain ⟨b1, o1, hA, hbb1, k0, k1, k2, k3, k4, k5, k6, k7, k8⟩ := (HZ.out.1.sl encT_len (Nat.le_refl _)).tri HT.out.2.1
    cases hA
    simp only [Nat.zero_add] at k0 k1 k2 k3 k4 k5 k6 k7 k8
    have jli : (j : Int) < (N : Int) := by omega
    have kli : (k : Int) < (N : Int) := by omega
    have hput : HFn = HFn := rfl
    have h8 := fun W (h : W = ((Z.drew.setCell ⟨g, k * 9 + 0 * 3, none⟩ (.int .i64 u4)).setCell ⟨g, k * 9 + 0 * 3 + 1, none⟩ (.int .i64 u5)).setCell ⟨g, k * 9 + 0 * 3 + 2, none⟩ (.int .i64 u6)) => HFn.out W (.slice (some ⟨g, 0, none⟩) N c1) (L.set k (putC ((t1, t2, t3), (t4, t5, t6), t7, t8, t9) 0 (u4, u5, u6))) N (by rw [h]; exact HZ.out.1.drew.putP HT.out.1 (by omega) (u4, u5, u6)) (by rw [List.length_set]; have := HS.out.2.2; omega) (HS.out.2.1.set k (putC_fits HT.out.2.2.1 HT.out.2.2.2.2.1 _)) (by rw [h]; exact ((HZ.out.2.2.1.drew.setCell (p := ⟨g, _, none⟩) (HZ.out.1.blk g rfl).1 _).setCell (p := ⟨g, _, none⟩) (HZ.out.1.blk g rfl).1 _).setCell (p := ⟨g, _, none⟩) (HZ.out.1.blk g rfl).1 _) (by rw [HRc.out]; rfl)
    have H8 := hide h8
    clear h8 hput
    go_upto_region 17 with fail
    go_still_tail 9, (by kernel_rfl)
    repeat still_step
    change wpList _ _ _ _ _ Z.drew
    go_wp2
    go_ret
    exact ⟨_, rfl, H8.out _ rfl⟩
  · obtain ⟨b0, o0, hA, hbb, g0, g1, g2, g3, g4, g5, g6, g7, g8⟩ := (HZ.out.1.sl encT_len (Nat.le_refl _)).tri HT.out.1
    cases hA
    simp only [Nat.zero_add] at g0 g1 g2 g3 g4 g5 g6 g7 g8
    obtain ⟨cs, hcs⟩ := HZ.out.1.cells g rfl
    have hbg : Blk Z g 58 cs := hcs
    have f0 : Z.frozen? ⟨g, k * 9 + 3, none⟩ = false := hbg.frozen _
    have f1 : Z.frozen? ⟨g, k * 9 + 4, none⟩ = false := hbg.frozen _
    have f2 : Z.frozen? ⟨g, k * 9 + 5, none⟩ = false := hbg.frozen _
    have hgl := hbg.lt
    have htl := HZ.out.2.1.lt
    clear hcs hbg
    have x0 : Z.cell? ⟨tb, 0, none⟩ = some (.int .i64 t1) := HZ.out.2.1.cell 0
    have x1 : Z.cell? ⟨tb, 1, none⟩ = some (.int .i64 t2) := HZ.out.2.1.cell 1
    have x2 : Z.cell? ⟨tb, 2, none⟩ = some (.int .i64 t3) := HZ.out.2.1.cell 2
    have kli : (k : Int) < (N : Int) := by omega
    have hput : HFn = HFn := rfl
    have h8 := fun W (h : W = ((Z.drew.setCell ⟨g, k * 9 + 1 * 3, none⟩ (.int .i64 t1)).setCell ⟨g, k * 9 + 1 * 3 + 1, none⟩ (.int .i64 t2)).setCell ⟨g, k * 9 + 1 * 3 + 2, none⟩ (.int .i64 t3)) => HFn.out W (.slice (some ⟨g, 0, none⟩) N c1) (L.set k (putC ((t1, t2, t3), (t4, t5, t6), t7, t8, t9) 1 (t1, t2, t3))) N (by rw [h]; exact HZ.out.1.drew.putP HT.out.1 (by omega) (t1, t2, t3)) (by rw [List.length_set]; have := HS.out.2.2; omega) (HS.out.2.1.set k (putC_fits HT.out.2.2.1 HT.out.2.2.1.1 _)) (by rw [h]; exact ((HZ.out.2.2.1.drew.setCell (p := ⟨g, _, none⟩) (HZ.out.1.blk g rfl).1 _).setCell (p := ⟨g, _, none⟩) (HZ.out.1.blk g rfl).1 _).setCell (p := ⟨g, _, none⟩) (HZ.out.1.blk g rfl).1 _) (by rw [HRc.out]; rfl)
    have H8 := hide h8
    clear h8 hput
    go_upto_region 19 with fail
    go_still_tail 6, (by kernel_rfl)
    repeat still_step
    change wpList _ _ _ _ _ Z.drew
    go_wp2
    go_ret
    exact ⟨_, rfl, H8.out _ rfl⟩
  · have hzZ := HZ.out.2.2.1.size
    have x0 : Z.cell? ⟨tb, 0, none⟩ = some (.int .i64 t1) := HZ.out.2.1.cell 0
    have x1 : Z.cell? ⟨tb, 1, none⟩ = some (.int .i64 t2) := HZ.out.2.1.cell 1
    have x2 : Z.cell? ⟨tb, 2, none⟩ = some (.int .i64 t3) := HZ.out.2.1.cell 2
    have x3 : Z.cell? ⟨tb, 3, none⟩ = some (.int .i64 t4) := HZ.out.2.1.cell 3
    have x4 : Z.cell? ⟨tb, 4, none⟩ = some (.int .i64 t5) := HZ.out.2.1.cell 4
    have x5 : Z.cell? ⟨tb, 5, none⟩ = some (.int .i64 t6) := HZ.out.2.1.cell 5
    have x6 : Z.cell? ⟨tb, 6, none⟩ = some (.int .i64 t7) := HZ.out.2.1.cell 6
    have x7 : Z.cell? ⟨tb, 7, none⟩ = some (.int .i64 t8) := HZ.out.2.1.cell 7
    have x8 : Z.cell? ⟨tb, 8, none⟩ = some (.int .i64 t9) := HZ.out.2.1.cell 8
    go_wp2_with (at_builtin; refine wpList_append1 rfl _ _ _ rfl Tryz.underlying28 infoT rfl (by omega) encT_len encT_one rfl (HZ.out.1.alloc _) Z.heap.size 1 ((t1, t2, t3), (t7, t8, t9), t4, t5, t6) rfl (Blk.new _ _ _) (by unfold maxLen; omega) (by omega) (by simp; omega) ?_; intro g5 cap5 w5 hown5 hg5 hB5 hat5 hgb5 hlt5; have h8 := HFn.out w5 _ (L ++ [((t1, t2, t3), (t7, t8, t9), t4, t5, t6)]) (N + 1) hown5 (by rw [List.length_append]; have := HS.out.2.2; simp; omega) (HS.out.2.1.app (fun t ht => by rw [List.mem_singleton] at ht; subst ht; exact ⟨HT.out.2.2.1.1, HT.out.2.2.1.2.2, HT.out.2.2.1.2.1⟩)) ((HZ.out.2.2.1.alloc hzZ _).trans hB5) (by rw [HRc.out]; rfl); have H8 := hide h8; clear h8 hown5 hg5 hB5 hat5 hgb5 hlt5)
    go_ret
    exact ⟨_, rfl, H8.out⟩
  · obtain ⟨b0, o0, hA, hbb, g0, g1, g2, g3, g4, g5, g6, g7, g8⟩ := (HZ.out.1.sl encT_len (Nat.le_refl _)).tri HT.out.2.1
    cases hA
    simp only [Nat.zero_add] at g0 g1 g2 g3 g4 g5 g6 g7 g8
    go_upto_region 24 with fail
    clear g0 g1 g2 g3 g4 g5 g6 g7 g8 hbb
    obtain ⟨pb, hpb⟩ : ∃ g, g = Z.heap.size := ⟨_, rfl⟩
    obtain ⟨Y, hY⟩ : ∃ W, W = Z.alloc (.cells #[.int .i64 u7, .int .i64 u8, .int .i64 u9] 41) := ⟨_, rfl⟩
    rw [← hY, ← hpb]
    have hbp : Blk Y pb 41 #[.int .i64 u7, .int .i64 u8, .int .i64 u9] := by rw [hY, hpb]; exact Blk.new _ _ _
    have hbt : Blk Y tb 58 #[.int .i64 t1, .int .i64 t2, .int .i64 t3, .int .i64 t4, .int .i64 t5, .int .i64 t6, .int .i64 t7, .int .i64 t8, .int .i64 t9] := by rw [hY]; exact HZ.out.2.1.alloc _
    have hOY : Own encT 9 58 Y W0.heap.size (.slice (some ⟨g, 0, none⟩) N c1) N L := by rw [hY]; exact HZ.out.1.alloc _
    have hBY : Below W0.heap.size W0 Y := by rw [hY]; exact HZ.out.2.2.1.alloc HZ.out.2.2.1.size _
    have hgp : g ≠ pb := by have := (HZ.out.1.blk g rfl).2; omega
    have hgW : W0.heap.size ≤ g := (HZ.out.1.blk g rfl).1
    have HY := hide (And.intro hbp (And.intro hbt (And.intro hOY (And.intro hBY (And.intro hgp (And.intro HZ.out.2.2.2.1 hgW))))))
    clear hbp hbt hOY hBY hgp hgW hY hpb
    go_wp2_with fail
    go_loopw [11] (fun iv wr => ∃ (i : Nat) (M : List Tri), (i ≤ N ∧ RepR L (u7, u8, u9) (t1, t2, t3) i 0 M) ∧ iv = .int .i64 i ∧ Own encT 9 58 wr W0.heap.size (.slice (some ⟨g, 0, none⟩) N c1) N M ∧ Blk wr pb 41 #[.int .i64 u7, .int .i64 u8, .int .i64 u9] ∧ Blk wr tb 58 #[.int .i64 t1, .int .i64 t2, .int .i64 t3, .int .i64 t4, .int .i64 t5, .int .i64 t6, .int .i64 t7, .int .i64 t8, .int .i64 t9] ∧ FitL M ∧ Below W0.heap.size W0 wr) (fun iv _ => N - (intOf iv).toNat)
    case atStart => exact ⟨0, L, ⟨by omega, RepR.start _ _ _⟩, rfl, HY.out.2.2.1, HY.out.1, HY.out.2.1, HS.out.2.1, HY.out.2.2.2.1⟩
    case round =>
      obtain ⟨i, M, ⟨hi, hM9⟩, rfl, hO, hbp, hbt, hfM, hB⟩ := hrel
      have HM9 := hide hM9
      clear hM9
      obtain ⟨V, rfl⟩ : ∃ x, x = wr := ⟨_, rfl⟩
      by_cases hlt : i < N
      · have i2 : (i : Int) < (N : Int) := by omega
        have HV := hide (And.intro hO (And.intro hbp (And.intro hbt (And.intro hfM hB))))
        clear hO hbp hbt hfM hB
        go_wp2_with fail
        go_loopw [12] (fun cv wr => ∃ (q : Nat) (M : List Tri), (q ≤ 3 ∧ RepR L (u7, u8, u9) (t1, t2, t3) i q M) ∧ cv = .int .i64 q ∧ Own encT 9 58 wr W0.heap.size (.slice (some ⟨g, 0, none⟩) N c1) N M ∧ Blk wr pb 41 #[.int .i64 u7, .int .i64 u8, .int .i64 u9] ∧ Blk wr tb 58 #[.int .i64 t1, .int .i64 t2, .int .i64 t3, .int .i64 t4, .int .i64 t5, .int .i64 t6, .int .i64 t7, .int .i64 t8, .int .i64 t9] ∧ FitL M ∧ Below W0.heap.size W0 wr) (fun cv _ => 3 - (intOf cv).toNat)
        case atStart => exact ⟨0, M, ⟨by omega, HM9.out⟩, rfl, HV.out.1, HV.out.2.1, HV.out.2.2.1, HV.out.2.2.2.1, HV.out.2.2.2.2⟩
        case round =>
          clear HV
          obtain ⟨q, M2, ⟨hq, hM8⟩, rfl, hO, hbp, hbt, hfM, hB⟩ := hrel
          have HM8 := hide hM8
          clear hM8
          obtain ⟨R, rfl⟩ : ∃ x, x = wr := ⟨_, rfl⟩
          obtain ⟨y, hy⟩ : ∃ y, M2[i]? = some y := ⟨_, List.getElem?_eq_getElem (by rw [← hO.1]; exact hlt)⟩
          have hfy := hfM y (List.mem_of_getElem? hy)
          have r0 : R.cell? ⟨pb, 0, none⟩ = some (.int .i64 u7) := hbp.cell 0
          have r1 : R.cell? ⟨pb, 1, none⟩ = some (.int .i64 u8) := hbp.cell 1
          have r2 : R.cell? ⟨pb, 2, none⟩ = some (.int .i64 u9) := hbp.cell 2
          have x0 : R.cell? ⟨tb, 0, none⟩ = some (.int .i64 t1) := hbt.cell 0
          have x1 : R.cell? ⟨tb, 1, none⟩ = some (.int .i64 t2) := hbt.cell 1
          have x2 : R.cell? ⟨tb, 2, none⟩ = some (.int .i64 t3) := hbt.cell 2
          have hpl := hbp.lt
          have htl := hbt.lt
          obtain ⟨b0, o0, hA, hbb, g0, g1, g2, g3, g4, g5, g6, g7, g8⟩ := (hO.sl encT_len (Nat.le_refl _)).tri hy
          cases hA
          simp only [Nat.zero_add] at g0 g1 g2 g3 g4 g5 g6 g7 g8
          obtain ⟨cs, hcs⟩ := hO.cells g rfl
          have hbg : Blk R g 58 cs := hcs
          have hgl := hbg.lt
          have hfr : ∀ o, R.frozen? ⟨g, o, none⟩ = false := fun o => hbg.frozen o
          have HR := hide (And.intro hO (And.intro hbp (And.intro hbt (And.intro hfM (And.intro hB (And.intro hy hfy))))))
          have HFr := hide hfr
          clear hO hbp hbt hfM hB hy hcs hbg hfr
          have hc : q = 0 ∨ q = 1 ∨ q = 2 ∨ q = 3 := by omega
          rcases hc with rfl | rfl | rfl | rfl
          · have e1 := eqP y.1 (u7, u8, u9) hfy.1 HT.out.2.2.2.2.2
            by_cases h1 : y.1 = (u7, u8, u9)
            · have hr9 := HM8.out.hit (by omega) HR.out.2.2.2.2.2.1 (show corner y 0 = (u7, u8, u9) from h1)
              have HR8 := hide hr9
              rw [decide_eq_true h1] at e1
              clear hr9
              clear h1 hfy
              have f0 : R.frozen? ⟨g, i * 9, none⟩ = false := HFr.out _
              have f1 : R.frozen? ⟨g, i * 9 + 1, none⟩ = false := HFr.out _
              have f2 : R.frozen? ⟨g, i * 9 + 2, none⟩ = false := HFr.out _
              go_upto_region 30 with fail
              go_quiet (fail)
              go_upto_region 31 with fail
              obtain ⟨R2, hR2⟩ : ∃ W, W = R.drewN nq := ⟨_, rfl⟩
              rw [← hR2]
              have HS2 := hide (show Own encT 9 58 R2 W0.heap.size (.slice (some ⟨g, 0, none⟩) N c1) N M2 ∧ Blk R2 pb 41 #[.int .i64 u7, .int .i64 u8, .int .i64 u9] ∧ Blk R2 tb 58 #[.int .i64 t1, .int .i64 t2, .int .i64 t3, .int .i64 t4, .int .i64 t5, .int .i64 t6, .int .i64 t7, .int .i64 t8, .int .i64 t9] ∧ FitL M2 ∧ Below W0.heap.size W0 R2 by rw [hR2]; exact ⟨HR.out.1, HR.out.2.1, HR.out.2.2.1, HR.out.2.2.2.1, below_drewN HR.out.2.2.2.2.1 _⟩)
              clear x0 x1 x2 g0 g1 g2 g3 g4 g5 g6 g7 g8 r0 r1 r2 f0 f1 f2 hpl htl hgl e1 hR2
              have x0 : R2.cell? ⟨tb, 0, none⟩ = some (.int .i64 t1) := HS2.out.2.2.1.cell 0
              have x1 : R2.cell? ⟨tb, 1, none⟩ = some (.int .i64 t2) := HS2.out.2.2.1.cell 1
              have x2 : R2.cell? ⟨tb, 2, none⟩ = some (.int .i64 t3) := HS2.out.2.2.1.cell 2
              obtain ⟨b0, o0, hA, hbb, g0, g1, g2, g3, g4, g5, g6, g7, g8⟩ := (HS2.out.1.sl encT_len (Nat.le_refl _)).tri HR.out.2.2.2.2.2.1
              cases hA
              simp only [Nat.zero_add] at g0 g1 g2 g3 g4 g5 g6 g7 g8
              obtain ⟨cs, hcs⟩ := HS2.out.1.cells g rfl
              have hbg : Blk R2 g 58 cs := hcs
              have f0 : R2.frozen? ⟨g, i * 9, none⟩ = false := hbg.frozen _
              have f1 : R2.frozen? ⟨g, i * 9 + 1, none⟩ = false := hbg.frozen _
              have f2 : R2.frozen? ⟨g, i * 9 + 2, none⟩ = false := hbg.frozen _
              have hgl := hbg.lt
              have htl := HS2.out.2.2.1.lt
              clear hcs hbg
              have h8 := fun W (h : W = ((R2.drew.setCell ⟨g, i * 9 + 0 * 3, none⟩ (.int .i64 t1)).setCell ⟨g, i * 9 + 0 * 3 + 1, none⟩ (.int .i64 t2)).setCell ⟨g, i * 9 + 0 * 3 + 2, none⟩ (.int .i64 t3)) => (show Own encT 9 58 W W0.heap.size (.slice (some ⟨g, 0, none⟩) N c1) N (M2.set i (putC y 0 (t1, t2, t3))) ∧ Blk W pb 41 #[.int .i64 u7, .int .i64 u8, .int .i64 u9] ∧ Blk W tb 58 #[.int .i64 t1, .int .i64 t2, .int .i64 t3, .int .i64 t4, .int .i64 t5, .int .i64 t6, .int .i64 t7, .int .i64 t8, .int .i64 t9] ∧ FitL (M2.set i (putC y 0 (t1, t2, t3))) ∧ Below W0.heap.size W0 W by rw [h]; exact ⟨HS2.out.1.drew.putP HR.out.2.2.2.2.2.1 (by omega) (t1, t2, t3), ((HS2.out.2.1.drew.far (p := ⟨g, _, none⟩) HY.out.2.2.2.2.1.symm _).far (p := ⟨g, _, none⟩) HY.out.2.2.2.2.1.symm _).far (p := ⟨g, _, none⟩) HY.out.2.2.2.2.1.symm _, ((HS2.out.2.2.1.drew.far (p := ⟨g, _, none⟩) HY.out.2.2.2.2.2.1.symm _).far (p := ⟨g, _, none⟩) HY.out.2.2.2.2.2.1.symm _).far (p := ⟨g, _, none⟩) HY.out.2.2.2.2.2.1.symm _, HS2.out.2.2.2.1.set i (putC_fits HR.out.2.2.2.2.2.2 HT.out.2.2.1.1 _), ((HS2.out.2.2.2.2.drew.setCell (p := ⟨g, _, none⟩) HY.out.2.2.2.2.2.2 _).setCell (p := ⟨g, _, none⟩) HY.out.2.2.2.2.2.2 _).setCell (p := ⟨g, _, none⟩) HY.out.2.2.2.2.2.2 _⟩)
              have H8 := hide h8
              clear h8
              go_still_tail 7, (by kernel_rfl)
              repeat still_step
              change wpList _ _ _ _ _ R2.drew
              go_wp2
              go_roundw
              case rel => exact ⟨_, _, _, _, _, _, _, _, _, _, _, _, _, _, _, _, _, _, _, _, ⟨1, _, ⟨by omega, HR8.out⟩, by go_num, (H8.out _ rfl).1, (H8.out _ rfl).2.1, (H8.out _ rfl).2.2.1, (H8.out _ rfl).2.2.2.1, (H8.out _ rfl).2.2.2.2⟩, rfl⟩
              case measure => (simp [intOf]; try omega)
            · have hr9 := HM8.out.miss (by omega) HR.out.2.2.2.2.2.1 (show corner y 0 ≠ (u7, u8, u9) from h1)
              have HR8 := hide hr9
              rw [decide_eq_false h1] at e1
              clear hr9
              clear h1 hfy
              go_upto_region 30 with fail
              go_quiet (fail)
              go_wp2
              go_roundw
              case rel => exact ⟨1, M2, ⟨by omega, HR8.out⟩, by go_num, HR.out.1, HR.out.2.1, HR.out.2.2.1, HR.out.2.2.2.1, below_drewN HR.out.2.2.2.2.1 _⟩
              case measure => (simp [intOf]; try omega)
          · have e1 := eqP y.2.1 (u7, u8, u9) hfy.2.1 HT.out.2.2.2.2.2
            by_cases h1 : y.2.1 = (u7, u8, u9)
            · have hr9 := HM8.out.hit (by omega) HR.out.2.2.2.2.2.1 (show corner y 1 = (u7, u8, u9) from h1)
              have HR8 := hide hr9
              rw [decide_eq_true h1] at e1
              clear hr9
              clear h1 hfy
              have f0 : R.frozen? ⟨g, i * 9 + 3, none⟩ = false := HFr.out _
              have f1 : R.frozen? ⟨g, i * 9 + 4, none⟩ = false := HFr.out _
              have f2 : R.frozen? ⟨g, i * 9 + 5, none⟩ = false := HFr.out _
              go_upto_region 30 with fail
              go_quiet (fail)
              go_upto_region 31 with fail
              obtain ⟨R2, hR2⟩ : ∃ W, W = R.drewN nq := ⟨_, rfl⟩
              rw [← hR2]
              have HS2 := hide (show Own encT 9 58 R2 W0.heap.size (.slice (some ⟨g, 0, none⟩) N c1) N M2 ∧ Blk R2 pb 41 #[.int .i64 u7, .int .i64 u8, .int .i64 u9] ∧ Blk R2 tb 58 #[.int .i64 t1, .int .i64 t2, .int .i64 t3, .int .i64 t4, .int .i64 t5, .int .i64 t6, .int .i64 t7, .int .i64 t8, .int .i64 t9] ∧ FitL M2 ∧ Below W0.heap.size W0 R2 by rw [hR2]; exact ⟨HR.out.1, HR.out.2.1, HR.out.2.2.1, HR.out.2.2.2.1, below_drewN HR.out.2.2.2.2.1 _⟩)
              clear x0 x1 x2 g0 g1 g2 g3 g4 g5 g6 g7 g8 r0 r1 r2 f0 f1 f2 hpl htl hgl e1 hR2
              have x0 : R2.cell? ⟨tb, 0, none⟩ = some (.int .i64 t1) := HS2.out.2.2.1.cell 0
              have x1 : R2.cell? ⟨tb, 1, none⟩ = some (.int .i64 t2) := HS2.out.2.2.1.cell 1
              have x2 : R2.cell? ⟨tb, 2, none⟩ = some (.int .i64 t3) := HS2.out.2.2.1.cell 2
              obtain ⟨b0, o0, hA, hbb, g0, g1, g2, g3, g4, g5, g6, g7, g8⟩ := (HS2.out.1.sl encT_len (Nat.le_refl _)).tri HR.out.2.2.2.2.2.1
              cases hA
              simp only [Nat.zero_add] at g0 g1 g2 g3 g4 g5 g6 g7 g8
              obtain ⟨cs, hcs⟩ := HS2.out.1.cells g rfl
              have hbg : Blk R2 g 58 cs := hcs
              have f0 : R2.frozen? ⟨g, i * 9 + 3, none⟩ = false := hbg.frozen _
              have f1 : R2.frozen? ⟨g, i * 9 + 4, none⟩ = false := hbg.frozen _
              have f2 : R2.frozen? ⟨g, i * 9 + 5, none⟩ = false := hbg.frozen _
              have hgl := hbg.lt
              have htl := HS2.out.2.2.1.lt
              clear hcs hbg
              have h8 := fun W (h : W = ((R2.drew.setCell ⟨g, i * 9 + 1 * 3, none⟩ (.int .i64 t1)).setCell ⟨g, i * 9 + 1 * 3 + 1, none⟩ (.int .i64 t2)).setCell ⟨g, i * 9 + 1 * 3 + 2, none⟩ (.int .i64 t3)) => (show Own encT 9 58 W W0.heap.size (.slice (some ⟨g, 0, none⟩) N c1) N (M2.set i (putC y 1 (t1, t2, t3))) ∧ Blk W pb 41 #[.int .i64 u7, .int .i64 u8, .int .i64 u9] ∧ Blk W tb 58 #[.int .i64 t1, .int .i64 t2, .int .i64 t3, .int .i64 t4, .int .i64 t5, .int .i64 t6, .int .i64 t7, .int .i64 t8, .int .i64 t9] ∧ FitL (M2.set i (putC y 1 (t1, t2, t3))) ∧ Below W0.heap.size W0 W by rw [h]; exact ⟨HS2.out.1.drew.putP HR.out.2.2.2.2.2.1 (by omega) (t1, t2, t3), ((HS2.out.2.1.drew.far (p := ⟨g, _, none⟩) HY.out.2.2.2.2.1.symm _).far (p := ⟨g, _, none⟩) HY.out.2.2.2.2.1.symm _).far (p := ⟨g, _, none⟩) HY.out.2.2.2.2.1.symm _, ((HS2.out.2.2.1.drew.far (p := ⟨g, _, none⟩) HY.out.2.2.2.2.2.1.symm _).far (p := ⟨g, _, none⟩) HY.out.2.2.2.2.2.1.symm _).far (p := ⟨g, _, none⟩) HY.out.2.2.2.2.2.1.symm _, HS2.out.2.2.2.1.set i (putC_fits HR.out.2.2.2.2.2.2 HT.out.2.2.1.1 _), ((HS2.out.2.2.2.2.drew.setCell (p := ⟨g, _, none⟩) HY.out.2.2.2.2.2.2 _).setCell (p := ⟨g, _, none⟩) HY.out.2.2.2.2.2.2 _).setCell (p := ⟨g, _, none⟩) HY.out.2.2.2.2.2.2 _⟩)
              have H8 := hide h8
              clear h8
              go_still_tail 7, (by kernel_rfl)
              repeat still_step
              change wpList _ _ _ _ _ R2.drew
              go_wp2
              go_roundw
              case rel => exact ⟨_, _, _, _, _, _, _, _, _, _, _, _, _, _, _, _, _, _, _, _, ⟨2, _, ⟨by omega, HR8.out⟩, by go_num, (H8.out _ rfl).1, (H8.out _ rfl).2.1, (H8.out _ rfl).2.2.1, (H8.out _ rfl).2.2.2.1, (H8.out _ rfl).2.2.2.2⟩, rfl⟩
              case measure => (simp [intOf]; try omega)
            · have hr9 := HM8.out.miss (by omega) HR.out.2.2.2.2.2.1 (show corner y 1 ≠ (u7, u8, u9) from h1)
              have HR8 := hide hr9
              rw [decide_eq_false h1] at e1
              clear hr9
              clear h1 hfy
              go_upto_region 30 with fail
              go_quiet (fail)
              go_wp2
              go_roundw
              case rel => exact ⟨2, M2, ⟨by omega, HR8.out⟩, by go_num, HR.out.1, HR.out.2.1, HR.out.2.2.1, HR.out.2.2.2.1, below_drewN HR.out.2.2.2.2.1 _⟩
              case measure => (simp [intOf]; try omega)
          · have e1 := eqP y.2.2 (u7, u8, u9) hfy.2.2 HT.out.2.2.2.2.2
            by_cases h1 : y.2.2 = (u7, u8, u9)
            · have hr9 := HM8.out.hit (by omega) HR.out.2.2.2.2.2.1 (show corner y 2 = (u7, u8, u9) from h1)
              have HR8 := hide hr9
              rw [decide_eq_true h1] at e1
              clear hr9
              clear h1 hfy
              have f0 : R.frozen? ⟨g, i * 9 + 6, none⟩ = false := HFr.out _
              have f1 : R.frozen? ⟨g, i * 9 + 7, none⟩ = false := HFr.out _
              have f2 : R.frozen? ⟨g, i * 9 + 8, none⟩ = false := HFr.out _
              go_upto_region 30 with fail
              go_quiet (fail)
              go_upto_region 31 with fail
              obtain ⟨R2, hR2⟩ : ∃ W, W = R.drewN nq := ⟨_, rfl⟩
              rw [← hR2]
              have HS2 := hide (show Own encT 9 58 R2 W0.heap.size (.slice (some ⟨g, 0, none⟩) N c1) N M2 ∧ Blk R2 pb 41 #[.int .i64 u7, .int .i64 u8, .int .i64 u9] ∧ Blk R2 tb 58 #[.int .i64 t1, .int .i64 t2, .int .i64 t3, .int .i64 t4, .int .i64 t5, .int .i64 t6, .int .i64 t7, .int .i64 t8, .int .i64 t9] ∧ FitL M2 ∧ Below W0.heap.size W0 R2 by rw [hR2]; exact ⟨HR.out.1, HR.out.2.1, HR.out.2.2.1, HR.out.2.2.2.1, below_drewN HR.out.2.2.2.2.1 _⟩)
              clear x0 x1 x2 g0 g1 g2 g3 g4 g5 g6 g7 g8 r0 r1 r2 f0 f1 f2 hpl htl hgl e1 hR2
              have x0 : R2.cell? ⟨tb, 0, none⟩ = some (.int .i64 t1) := HS2.out.2.2.1.cell 0
              have x1 : R2.cell? ⟨tb, 1, none⟩ = some (.int .i64 t2) := HS2.out.2.2.1.cell 1
              have x2 : R2.cell? ⟨tb, 2, none⟩ = some (.int .i64 t3) := HS2.out.2.2.1.cell 2
              obtain ⟨b0, o0, hA, hbb, g0, g1, g2, g3, g4, g5, g6, g7, g8⟩ := (HS2.out.1.sl encT_len (Nat.le_refl _)).tri HR.out.2.2.2.2.2.1
              cases hA
              simp only [Nat.zero_add] at g0 g1 g2 g3 g4 g5 g6 g7 g8
              obtain ⟨cs, hcs⟩ := HS2.out.1.cells g rfl
              have hbg : Blk R2 g 58 cs := hcs
              have f0 : R2.frozen? ⟨g, i * 9 + 6, none⟩ = false := hbg.frozen _
              have f1 : R2.frozen? ⟨g, i * 9 + 7, none⟩ = false := hbg.frozen _
              have f2 : R2.frozen? ⟨g, i * 9 + 8, none⟩ = false := hbg.frozen _
              have hgl := hbg.lt
              have htl := HS2.out.2.2.1.lt
              clear hcs hbg
              have h8 := fun W (h : W = ((R2.drew.setCell ⟨g, i * 9 + 2 * 3, none⟩ (.int .i64 t1)).setCell ⟨g, i * 9 + 2 * 3 + 1, none⟩ (.int .i64 t2)).setCell ⟨g, i * 9 + 2 * 3 + 2, none⟩ (.int .i64 t3)) => (show Own encT 9 58 W W0.heap.size (.slice (some ⟨g, 0, none⟩) N c1) N (M2.set i (putC y 2 (t1, t2, t3))) ∧ Blk W pb 41 #[.int .i64 u7, .int .i64 u8, .int .i64 u9] ∧ Blk W tb 58 #[.int .i64 t1, .int .i64 t2, .int .i64 t3, .int .i64 t4, .int .i64 t5, .int .i64 t6, .int .i64 t7, .int .i64 t8, .int .i64 t9] ∧ FitL (M2.set i (putC y 2 (t1, t2, t3))) ∧ Below W0.heap.size W0 W by rw [h]; exact ⟨HS2.out.1.drew.putP HR.out.2.2.2.2.2.1 (by omega) (t1, t2, t3), ((HS2.out.2.1.drew.far (p := ⟨g, _, none⟩) HY.out.2.2.2.2.1.symm _).far (p := ⟨g, _, none⟩) HY.out.2.2.2.2.1.symm _).far (p := ⟨g, _, none⟩) HY.out.2.2.2.2.1.symm _, ((HS2.out.2.2.1.drew.far (p := ⟨g, _, none⟩) HY.out.2.2.2.2.2.1.symm _).far (p := ⟨g, _, none⟩) HY.out.2.2.2.2.2.1.symm _).far (p := ⟨g, _, none⟩) HY.out.2.2.2.2.2.1.symm _, HS2.out.2.2.2.1.set i (putC_fits HR.out.2.2.2.2.2.2 HT.out.2.2.1.1 _), ((HS2.out.2.2.2.2.drew.setCell (p := ⟨g, _, none⟩) HY.out.2.2.2.2.2.2 _).setCell (p := ⟨g, _, none⟩) HY.out.2.2.2.2.2.2 _).setCell (p := ⟨g, _, none⟩) HY.out.2.2.2.2.2.2 _⟩)
              have H8 := hide h8
              clear h8
              go_still_tail 7, (by kernel_rfl)
              repeat still_step
              change wpList _ _ _ _ _ R2.drew
              go_wp2
              go_roundw
              case rel => exact ⟨_, _, _, _, _, _, _, _, _, _, _, _, _, _, _, _, _, _, _, _, ⟨3, _, ⟨by omega, HR8.out⟩, by go_num, (H8.out _ rfl).1, (H8.out _ rfl).2.1, (H8.out _ rfl).2.2.1, (H8.out _ rfl).2.2.2.1, (H8.out _ rfl).2.2.2.2⟩, rfl⟩
              case measure => (simp [intOf]; try omega)
            · have hr9 := HM8.out.miss (by omega) HR.out.2.2.2.2.2.1 (show corner y 2 ≠ (u7, u8, u9) from h1)
              have HR8 := hide hr9
              rw [decide_eq_false h1] at e1
              clear hr9
              clear h1 hfy
              go_upto_region 30 with fail
              go_quiet (fail)
              go_wp2
              go_roundw
              case rel => exact ⟨3, M2, ⟨by omega, HR8.out⟩, by go_num, HR.out.1, HR.out.2.1, HR.out.2.2.1, HR.out.2.2.2.1, below_drewN HR.out.2.2.2.2.1 _⟩
              case measure => (simp [intOf]; try omega)
          · have i3 : ¬ ((3 : Nat) : Int) < 3 := by omega
            go_wp2
            go_roundw
            case rel => exact ⟨i + 1, M2, ⟨by omega, HM8.out.next⟩, by go_num, HR.out.1, HR.out.2.1, HR.out.2.2.1, HR.out.2.2.2.1, HR.out.2.2.2.2.1⟩
            case measure => (simp [intOf]; try omega)
      · obtain rfl : i = N := by omega
        have i2 : ¬ (i : Int) < (i : Int) := by omega
        have h8 := HFn.out V _ M i hO (by have := hO.1; omega) hfM hB (by rw [HRc.out]; have h9 := HM9.out; rw [HS.out.2.2] at h9; exact h9.done.symm)
        have H8 := hide h8
        clear h8 hO hbp hbt hfM hB
        go_wp2
        go_ret
        exact ⟨_, rfl, H8.out⟩
  · obtain ⟨k1, hk1⟩ : ∃ m, m = k + 1 := ⟨_, rfl⟩
    have e1 : 1 + (k : Int) = (k1 : Int) := by omega
    have hk1N : k1 ≤ N := by omega
    have hcap := HZ.out.1.place.1
    have hrunH : ∀ V : World, (Instr.slice 28 (.slice (some ⟨g, 0, none⟩) N c1) none (some (.int .i64 k1)) none).run Tryz.prog V = .ok (.slice (some ⟨g, 0, none⟩) k1 c1) V := fun V => run_cutH Tryz.underlying28 Tryz.sizeOf58 hk1N hcap V
    have h8 := HFn.out Z _ (L.take k1) k1 (HZ.out.1.cutN encT_len hk1N) (by rw [List.length_take]; have := HS.out.2.2; omega) (fun t ht => HS.out.2.1 t (List.mem_of_mem_take ht)) HZ.out.2.2.1 (by rw [HRc.out, hk1]; rfl)
    have H8 := hide h8
    clear hk1 h8 hcap
    go_wp2
    go_ret
    exact ⟨_, rfl, H8.out⟩
  · have x0 : Z.cell? ⟨tb, 0, none⟩ = some (.int .i64 t1) := HZ.out.2.1.cell 0
    have x1 : Z.cell? ⟨tb, 1, none⟩ = some (.int .i64 t2) := HZ.out.2.1.cell 1
    have x2 : Z.cell? ⟨tb, 2, none⟩ = some (.int .i64 t3) := HZ.out.2.1.cell 2
    have x3 : Z.cell? ⟨tb, 3, none⟩ = some (.int .i64 t4) := HZ.out.2.1.cell 3
    have x4 : Z.cell? ⟨tb, 4, none⟩ = some (.int .i64 t5) := HZ.out.2.1.cell 4
    have x5 : Z.cell? ⟨tb, 5, none⟩ = some (.int .i64 t6) := HZ.out.2.1.cell 5
    have x6 : Z.cell? ⟨tb, 6, none⟩ = some (.int .i64 t7) := HZ.out.2.1.cell 6
    have x7 : Z.cell? ⟨tb, 7, none⟩ = some (.int .i64 t8) := HZ.out.2.1.cell 7
    have x8 : Z.cell? ⟨tb, 8, none⟩ = some (.int .i64 t9) := HZ.out.2.1.cell 8
    obtain ⟨b0, o0, hA, hbb, g0, g1, g2, g3, g4, g5, g6, g7, g8⟩ := (HZ.out.1.sl encT_len (Nat.le_refl _)).tri HT.out.1
    cases hA
    simp only [Nat.zero_add] at g0 g1 g2 g3 g4 g5 g6 g7 g8
    obtain ⟨cs, hcs⟩ := HZ.out.1.cells g rfl
    have hbg : Blk Z g 58 cs := hcs
    have f0 : Z.frozen? ⟨g, k * 9, none⟩ = false := hbg.frozen _
    have f1 : Z.frozen? ⟨g, k * 9 + 1, none⟩ = false := hbg.frozen _
    have f2 : Z.frozen? ⟨g, k * 9 + 2, none⟩ = false := hbg.frozen _
    have f3 : Z.frozen? ⟨g, k * 9 + 3, none⟩ = false := hbg.frozen _
    have f4 : Z.frozen? ⟨g, k * 9 + 4, none⟩ = false := hbg.frozen _
    have f5 : Z.frozen? ⟨g, k * 9 + 5, none⟩ = false := hbg.frozen _
    have f6 : Z.frozen? ⟨g, k * 9 + 6, none⟩ = false := hbg.frozen _
    have f7 : Z.frozen? ⟨g, k * 9 + 7, none⟩ = false := hbg.frozen _
    have f8 : Z.frozen? ⟨g, k * 9 + 8, none⟩ = false := hbg.frozen _
    have hgl := hbg.lt
    have htl := HZ.out.2.1.lt
    clear hcs hbg
    have h8 := fun W (h : W = setW Z g (k * 9) (encT ((t7, t8, t9), (t1, t2, t3), t4, t5, t6))) => HFn.out W (.slice (some ⟨g, 0, none⟩) N c1) (L.set k ((t7, t8, t9), (t1, t2, t3), t4, t5, t6)) N (by rw [h]; exact HZ.out.1.setW encT_len (by rw [← HS.out.2.2]; exact hkN) ((t7, t8, t9), (t1, t2, t3), t4, t5, t6)) (by rw [List.length_set]; have := HS.out.2.2; omega) (HS.out.2.1.set k ⟨HT.out.2.2.1.2.2, HT.out.2.2.1.1, HT.out.2.2.1.2.1⟩) (by rw [h]; exact below_setW HZ.out.2.2.1 (by have := (HZ.out.1.blk g rfl).1; omega) _ _) (by rw [HRc.out]; rfl)
    have H8 := hide h8
    clear h8
    go_wp2
    go_ret
    exact ⟨_, rfl, H8.out _ rfl⟩
  · go_wp2
    go_ret
    exact ⟨_, rfl, HFn.out Z _ L N HZ.out.1 (by have := HS.out.2.2; omega) HS.out.2.1 HZ.out.2.2.1 (by rw [HRc.out]; rfl)⟩
  · go_wp2
    go_ret
    exact ⟨_, rfl, HFn.out Z _ L N HZ.out.1 (by have := HS.out.2.2; omega) HS.out.2.1 HZ.out.2.2.1 (by rw [HRc.out]; rfl)⟩
  · go_wp2
    go_ret
    exact ⟨_, rfl, HFn.out Z _ L N HZ.out.1 (by have := HS.out.2.2; omega) HS.out.2.1 HZ.out.2.2.1 (by rw [HRc.out]; rfl)⟩
end Go.Proofs.YtelfnmohpjkilaaGreatDoor
namespace Go.Proofs.YtelfnmohpjkilaaGreatDoor
open Go.RowKit Go.Sort
def baseT (op : Bool) (b0 : Nat) (ns : List Int) : List Tri := if op = true then hillsT (ns.take (min ns.length 49)) ((modC ((b0 % 6 : Nat) : Int) 6).toNat + 1) ((modC ((b0 % 6 : Nat) : Int) 6).toNat + 1) else voxP (b0 % 134217728).testBit (10, 20, 30) 2
def trisT (op : Bool) (b0 : Nat) (ns : List Int) (s0 s1 s2 s3 s4 s5 : Int) : List Tri := spoilT s3 s4 s5 (spoilT s0 s1 s2 (baseT op b0 ns))
set_option maxRecDepth 100000 in
set_option maxHeartbeats 32000000 in
theorem tris_is (op : Bool) (b0 : Nat) (A : Option Addr) (c : Nat) (ns : List Int) (s0 s1 s2 s3 s4 s5 : Int) (w : World) (hb0 : b0 < 4294967296) (hs : ns ≠ [] → Sl encZ4 1 w w.heap.size A ns) (hf : ∀ n ∈ ns, fits n) (hlc : ns.length ≤ c) (hlm : ns.length ≤ 9223372036854775807) :
    Calls Tryz.prog 13 #[.agg (vSh op b0 A ns.length c s0 s1 s2 s3 s4 s5)] w fun e w' => ∃ v, e = .returned v ∧ SpoX w w' (trisT op b0 ns s0 s1 s2 s3 s4 s5) 400 v := by
  obtain ⟨T9, hT9⟩ : ∃ T, T = trisT op b0 ns s0 s1 s2 s3 s4 s5 := ⟨_, rfl⟩
  obtain ⟨L9, hL9⟩ : ∃ T, T = baseT op b0 ns := ⟨_, rfl⟩
  rw [← hT9]
  unfold trisT at hT9
  rw [← hL9] at hT9
  unfold baseT at hL9
  obtain ⟨b, hb⟩ : ∃ b, b = b0 % 134217728 := ⟨_, rfl⟩
  have hb27 : b < 134217728 := by omega
  have ha := and_27 b0
  rw [← hb] at ha
  obtain ⟨r, hr6⟩ : ∃ r, r = b0 % 6 := ⟨_, rfl⟩
  have er : (b0 : Int) % 6 = (r : Int) := by omega
  have hr6b : r < 6 := by omega
  obtain ⟨m, hm⟩ : ∃ m, m = min ns.length 49 := ⟨_, rfl⟩
  have hml : m ≤ ns.length := by omega
  have hm49 : m ≤ 49 := by omega
  have hrunH : ∀ V : World, (Instr.slice 23 (.slice A ns.length c) none (some (.int .i64 m)) none).run Tryz.prog V = .ok (.slice A m c) V := fun V => run_cutH Tryz.underlying23 Tryz.sizeOf3 hml hlc V
  have hmin : min (ns.length : Int) 49 = (m : Int) := by omega
  have hvr : voxR (10, 20, 30) 2 := by unfold voxR; dsimp only; omega
  have hvx := fun W => voxels_any b hb27 2 (10, 20, 30) W hvr
  have hml2 : (ns.take m).length = m := by rw [List.length_take]; omega
  rw [← hb, ← hr6, ← hm] at hL9
  have hhl := fun W (hW : Below w.heap.size w W) => hills_is r A c (ns.take m) W (fun h => by
    have hne : ns ≠ [] := fun e => h (by rw [e]; simp)
    exact (((hs hne).below hW).more hW.size).take8 m) (by omega) (fun n hn => hf n (List.mem_of_mem_take hn))
  simp only [hml2] at hhl
  have hvf := vox_fitsT (b := b.testBit) hvr
  have hvl := voxP_le b.testBit (10, 20, 30) 2
  obtain ⟨M, hM⟩ : ∃ M, M = ns.length := ⟨_, rfl⟩
  rw [← hM] at hrunH hmin ⊢
  have H9 := hide (And.intro hT9 hL9)
  clear hT9 hL9
  have HV := hide (And.intro hvx (And.intro hvf hvl))
  have HH := hide hhl
  have HR := hide (And.intro hrunH hmin)
  have hMm : M ≤ 9223372036854775807 := by omega
  clear hvx hvf hvl hhl hs hf hM hlc hb hr6 hm hml hml2 hvr hrunH hmin hlm
  go_enter Tryz.func13, Tryz.ntmps13
  go_upto_region 1 with fail
  obtain ⟨xb, hxb⟩ : ∃ g, g = w.heap.size := ⟨_, rfl⟩
  obtain ⟨W0, hW0⟩ : ∃ W, W = w.alloc (.cells (vSh op b0 A M c s0 s1 s2 s3 s4 s5) 26) := ⟨_, rfl⟩
  rw [← hW0, ← hxb]
  have hbx : Blk W0 xb 26 (vSh op b0 A M c s0 s1 s2 s3 s4 s5) := by rw [hW0, hxb]; exact Blk.new _ _ _
  have hB0 : Below w.heap.size w W0 := by rw [hW0]; exact (Below.refl _ w).alloc (Nat.le_refl _) _
  have H0 := hide (And.intro hbx (And.intro hB0 hbx.lt))
  clear hbx hB0 hW0 hxb
  have x1 : W0.cell? ⟨xb, 1, none⟩ = some (.int .u32 b0) := H0.out.1.cell 1
  go_upto_region 2 with (go_at_call 40; refine (HV.out.1 W0).mono ?_; rintro e X ⟨v1, rfl, ho, hB⟩; have H1 := hide (And.intro ho hB); clear ho hB)
  clear x1 ha
  have hbX := H0.out.1.below H1.out.2 H0.out.2.2
  have x0 : X.cell? ⟨xb, 0, none⟩ = some (.bool op) := hbX.cell 0
  have x1 : X.cell? ⟨xb, 1, none⟩ = some (.int .u32 b0) := hbX.cell 1
  have x2 : X.cell? ⟨xb, 2, none⟩ = some (.slice A M c) := hbX.cell 2
  have hxl := hbX.lt
  have HX := hide hbX
  clear hbX
  go_upto_if 11 with fail
  go_cut [3] (fun v wx => ∃ N : Nat, Own encT 9 58 wx W0.heap.size v N L9 ∧ N ≤ 324 ∧ FitL L9 ∧ Below W0.heap.size W0 wx)
  case first =>
    cases op with
    | false =>
      have e9 := H9.out.2
      rw [if_neg (by decide)] at e9
      have E9 := hide e9
      clear e9
      go_wp2
      go_meet
      case rel => exact ⟨_, by rw [E9.out]; exact H1.out.1, HV.out.2.2, by rw [E9.out]; exact HV.out.2.1, H1.out.2⟩
    | true =>
      have e9 := H9.out.2
      rw [if_pos rfl] at e9
      have E9 := hide e9
      clear e9
      go_upto_region 3 with fail
      have hrunH := HR.out.1
      have hmin := HR.out.2
      go_still_tail 11, (by kernel_rfl)
      repeat still_step
      change wpList _ _ _ _ _ X.drew
      go_wp2_with fail
      go_at_call 41
      try rw [er]
      with_reducible refine (HH.out X.drew (H0.out.2.1.trans (H1.out.2.drew.mono H0.out.2.1.size))).mono ?_
      rintro e X2 ⟨v2, rfl, ho, hl, hf, hB⟩
      rw [← E9.out] at ho hl hf
      have h1 := ho.base_le (show W0.heap.size ≤ X.drew.heap.size from H1.out.2.size)
      have h2 := H1.out.2.drew.trans (hB.mono H1.out.2.size)
      have H2 := hide (And.intro h1 (And.intro hl (And.intro hf h2)))
      clear ho hl hf hB h1 h2
      go_wp2_with fail
      go_meet
      case rel => exact ⟨_, H2.out.1, by have := H2.out.2.1; omega, H2.out.2.2.1, H2.out.2.2.2⟩
  case rest =>
  obtain ⟨N, hO, hN, hL, hB⟩ := hcut
  obtain ⟨Y, rfl⟩ : ∃ W, W = wc := ⟨_, rfl⟩
  obtain ⟨A3, c3, rfl⟩ := hO.form
  clear x0 x1 x2 hxl
  have hbY := H0.out.1.below hB H0.out.2.2
  have x3 : Y.cell? ⟨xb, 3, none⟩ = some (.int .i64 s0) := hbY.cell 3
  have x4 : Y.cell? ⟨xb, 4, none⟩ = some (.int .i64 s1) := hbY.cell 4
  have x5 : Y.cell? ⟨xb, 5, none⟩ = some (.int .i64 s2) := hbY.cell 5
  have hxl := hbY.lt
  have k1 := spoiled_is A3 c3 L9 s0 s1 s2 Y (hO.sl encT_len (Nat.le_refl _)) (by have := hO.1; omega) hL
  have hNl := hO.1
  rw [← hNl] at k1
  have K1 := hide k1
  have HY := hide (And.intro hbY (And.intro hB hN))
  clear k1 hbY hO hL hNl hB hN
  go_upto_region 5 with (go_at_call 28; refine K1.out.mono ?_; rintro e Z ⟨v, rfl, ho, hl, hf, hB⟩; obtain ⟨L2, hL2⟩ : ∃ L, L = spoilT s0 s1 s2 L9 := ⟨_, rfl⟩; rw [← hL2] at ho hl hf; have H6 := hide hL2; clear hL2; obtain ⟨A4, c4, rfl⟩ := ho.form; have H3 := hide (And.intro ho (And.intro hl (And.intro hf hB))); clear ho hl hf hB)
  clear x3 x4 x5 hxl
  have hbZ := HY.out.1.below H3.out.2.2.2 HY.out.1.lt
  have x6 : Z.cell? ⟨xb, 6, none⟩ = some (.int .i64 s3) := hbZ.cell 6
  have x7 : Z.cell? ⟨xb, 7, none⟩ = some (.int .i64 s4) := hbZ.cell 7
  have x8 : Z.cell? ⟨xb, 8, none⟩ = some (.int .i64 s5) := hbZ.cell 8
  have hxl := hbZ.lt
  obtain ⟨N2, hN2⟩ : ∃ n, n = L2.length := ⟨_, rfl⟩
  have k2 := spoiled_is A4 c4 L2 s3 s4 s5 Z (H3.out.1.sl encT_len (Nat.le_refl _)) (by have := H3.out.2.1; have := HY.out.2.2; omega) H3.out.2.2.1
  have hN2b : N2 ≤ 325 := by have := H3.out.2.1; have := HY.out.2.2; omega
  rw [← hN2] at k2 ⊢
  have K2 := hide k2
  have HZ := hide (H0.out.2.1.trans ((HY.out.2.1.trans (H3.out.2.2.2.mono HY.out.2.1.size)).mono H0.out.2.1.size))
  clear k2 hbZ hN2
  go_wp2_with (go_at_call 28; refine K2.out.mono ?_; rintro e U ⟨v, rfl, ho, hl, hf, hB⟩; have h8 : SpoX w U T9 400 v := (by rw [H9.out.1, ← H6.out]; exact ⟨ho.base_le HZ.out.size, by omega, hf, HZ.out.trans (hB.mono HZ.out.size)⟩); have H8 := hide h8; clear ho hl hf hB h8)
  go_ret
  exact ⟨_, rfl, H8.out⟩
end Go.Proofs.YtelfnmohpjkilaaGreatDoor
namespace Go.Proofs.YtelfnmohpjkilaaGreatDoor
open Go.RowKit Go.Sort
theorem kep_parts {A : Option Addr} {c : Nat} {L : List Tri} {N : Nat} {P : List (List Tri)} {S : Nat → Nat → Bool} (hN : N = L.length) (hS : ClsS (canonO L) S) (hP : P = partsT (canonO L) S (canonO L).length) (hl : N ≤ 401) (hf : FitL L) (W : World) (hs : Sl encT 9 W W.heap.size A L) :
    Calls Tryz.prog 34 #[.slice A N c] W fun e w' => ∃ A c ss, e = .returned (.slice A P.length c) ∧ PcsK 58 28 w' W.heap.size (.slice A P.length c) ss P ∧ Below W.heap.size W w' := by
  have k := parts4_any A c L W hs (by omega) hf S hS
  rw [← hN, ← hP] at k
  refine Calls.mono k ?_
  rintro e w' ⟨v, rfl, ho, hB⟩
  obtain ⟨A, c, rfl⟩ := ho.form
  obtain ⟨ss, h1, h2, h3⟩ := ho
  exact ⟨A, c, ss, rfl, ⟨h1, h2, h3⟩, hB⟩
theorem kep_canon {A : Option Addr} {c : Nat} {L : List Tri} {N : Nat} (hN : N = L.length) (hl : N ≤ 401) (W : World) (hs : Sl encT 9 W W.heap.size A L) :
    Calls Tryz.prog 30 #[.slice A N c] W fun e w' => ∃ A c, e = .returned (.slice A N c) ∧ Own encT 9 58 w' W.heap.size (.slice A N c) N (canonO L) ∧ Below W.heap.size W w' := by
  have k := canon_own A c L W hs (by omega)
  simp only [canonTO] at k
  rw [← hN] at k
  refine Calls.mono k ?_
  rintro e w' ⟨v, rfl, ho, hB⟩
  obtain ⟨A, c, rfl⟩ := ho.form
  exact ⟨A, c, rfl, ho, hB⟩
set_option maxRecDepth 100000 in
set_option maxHeartbeats 64000000 in
theorem keeps4_of (hsan : ∀ W : World, Calls Tryz.prog 12 #[] W fun e w' => e = .returned (.bool true) ∧ Below W.heap.size W w') (op : Bool) (b0 : Nat) (A : Option Addr) (c : Nat) (ns : List Int) (s0 s1 s2 s3 s4 s5 : Int) (w : World) (hb0 : b0 < 4294967296) (hs : ns ≠ [] → Sl encZ4 1 w w.heap.size A ns) (hf : ∀ n ∈ ns, fits n) (hlc : ns.length ≤ c) (hlm : ns.length ≤ 9223372036854775807) :
    Calls Tryz.prog 9 #[.agg (vSh op b0 A ns.length c s0 s1 s2 s3 s4 s5)] w fun e w' => e = .returned (.bool true) ∧ Below w.heap.size w w' := by
  have htr := fun W (hW : Below w.heap.size w W) => tris_is op b0 A c ns s0 s1 s2 s3 s4 s5 W hb0 (fun h => ((hs h).below hW).more hW.size) hf hlc hlm
  obtain ⟨T, hT⟩ : ∃ T, T = trisT op b0 ns s0 s1 s2 s3 s4 s5 := ⟨_, rfl⟩
  simp only [← hT] at htr
  obtain ⟨M0, hM0⟩ : ∃ M, M = ns.length := ⟨_, rfl⟩
  simp only [← hM0] at htr ⊢
  have htr2 : ∀ W, Below w.heap.size w W → Calls Tryz.prog 13 #[.agg (vSh op b0 A M0 c s0 s1 s2 s3 s4 s5)] W fun e w' => ∃ A c, e = .returned (.slice A T.length c) ∧ (Sl encT 9 w' w'.heap.size A T ∧ T.length ≤ 401 ∧ FitL T) ∧ Below W.heap.size W w' := fun W hW => by
    refine (htr W hW).mono ?_
    rintro e w' ⟨v, rfl, ho, hl, hf, hB⟩
    obtain ⟨A, c, rfl⟩ := ho.form
    exact ⟨A, c, rfl, ⟨ho.sl encT_len (Nat.le_refl _), hl, hf⟩, hB⟩
  obtain ⟨N, hN⟩ : ∃ n, n = T.length := ⟨_, rfl⟩
  simp only [← hN] at htr2
  have HN := hide hN
  clear hN htr
  have HT := hide htr2
  have HS := hide hsan
  clear htr2 hsan hs hf hM0 hlc hlm hT
  go_enter Tryz.func9, Tryz.ntmps9
  go_upto_region 1 with fail
  obtain ⟨xb, hxb⟩ : ∃ g, g = w.heap.size := ⟨_, rfl⟩
  obtain ⟨W0, hW0⟩ : ∃ W, W = w.alloc (.cells (vSh op b0 A M0 c s0 s1 s2 s3 s4 s5) 26) := ⟨_, rfl⟩
  rw [← hW0, ← hxb]
  have hbx : Blk W0 xb 26 (vSh op b0 A M0 c s0 s1 s2 s3 s4 s5) := by rw [hW0, hxb]; exact Blk.new _ _ _
  have hB0 : Below w.heap.size w W0 := by rw [hW0]; exact (Below.refl _ w).alloc (Nat.le_refl _) _
  have H0 := hide (And.intro hbx hB0)
  clear hbx hB0 hW0 hxb
  go_upto_region 2 with (go_at_call 12; refine (HS.out W0).mono ?_; rintro e X ⟨rfl, hB⟩; have h1 := H0.out.1.below hB H0.out.1.lt; have h2 := H0.out.2.trans (hB.mono H0.out.2.size); have H1 := hide (And.intro h1 h2); clear h1 h2 hB)
  clear H0
  obtain ⟨X1, hX1⟩ : ∃ W, W = X.drew := ⟨_, rfl⟩
  have hbX : Blk X1 xb 26 (vSh op b0 A M0 c s0 s1 s2 s3 s4 s5) := by rw [hX1]; exact H1.out.1.drew
  have hBX : Below w.heap.size w X1 := by rw [hX1]; exact H1.out.2.drew
  have hcells : ∀ W, Below X1.heap.size X1 W → (W.cell? ⟨xb, 0, none⟩ = some (.bool op) ∧ W.cell? ⟨xb, 1, none⟩ = some (.int .u32 b0) ∧ W.cell? ⟨xb, 2, none⟩ = some (.slice A M0 c) ∧ W.cell? ⟨xb, 3, none⟩ = some (.int .i64 s0) ∧ W.cell? ⟨xb, 4, none⟩ = some (.int .i64 s1) ∧ W.cell? ⟨xb, 5, none⟩ = some (.int .i64 s2) ∧ W.cell? ⟨xb, 6, none⟩ = some (.int .i64 s3) ∧ W.cell? ⟨xb, 7, none⟩ = some (.int .i64 s4) ∧ W.cell? ⟨xb, 8, none⟩ = some (.int .i64 s5)) := fun W h => by
    have hb := hbX.below h hbX.lt
    exact ⟨hb.cell 0, hb.cell 1, hb.cell 2, hb.cell 3, hb.cell 4, hb.cell 5, hb.cell 6, hb.cell 7, hb.cell 8⟩
  have HC := hide hcells
  have HX := hide hBX
  clear hcells hbX hBX
  refine wp_region_mix (fun W => W.cell? ⟨xb, 0, none⟩ = some (.bool op) ∧ W.cell? ⟨xb, 1, none⟩ = some (.int .u32 b0) ∧ W.cell? ⟨xb, 2, none⟩ = some (.slice A M0 c) ∧ W.cell? ⟨xb, 3, none⟩ = some (.int .i64 s0) ∧ W.cell? ⟨xb, 4, none⟩ = some (.int .i64 s1) ∧ W.cell? ⟨xb, 5, none⟩ = some (.int .i64 s2) ∧ W.cell? ⟨xb, 6, none⟩ = some (.int .i64 s3) ∧ W.cell? ⟨xb, 7, none⟩ = some (.int .i64 s4) ∧ W.cell? ⟨xb, 8, none⟩ = some (.int .i64 s5)) [0, 2] [0, 2, 1, 3, 4, 5] mixed_ok (by kernel_rfl) ?_
  rw [← hX1]
  clear hX1
  have hq := HC.out X1 (Below.refl _ X1)
  refine wpMix_q (v := .agg (vSh op b0 A M0 c s0 s1 s2 s3 s4 s5)) rfl rfl (fun _ _ _ h => h) hq ⟨rfl, fun _ h' => by obtain ⟨x0, x1, x2, x3, x4, x5, x6, x7, x8⟩ := h'; simp [go_sem, x0, x1, x2, x3, x4, x5, x6, x7, x8]⟩ ?_
  refine wpMix_q (v := .agg (vSh op b0 A M0 c s0 s1 s2 s3 s4 s5)) rfl rfl (fun _ _ _ h => h) hq ⟨rfl, fun _ h' => by obtain ⟨x0, x1, x2, x3, x4, x5, x6, x7, x8⟩ := h'; simp [go_sem, x0, x1, x2, x3, x4, x5, x6, x7, x8]⟩ ?_
  refine wpMix_n rfl rfl ?_
  clear hq
  go_wp2_with (go_at_call 13; refine (HT.out X1 HX.out).mono ?_; rintro e Y1 ⟨TA, tc, rfl, h1, hB⟩; have H2 := hide (And.intro h1 hB); clear hB h1)
  refine ⟨fun _ => HC.out Y1 H2.out.2, ?_⟩
  refine wpMix_tail _ [_, _, _] (by kernel_rfl) rfl ?_
  simp only [List.getElem_toArray, List.getElem_cons_succ, List.getElem_cons_zero]
  have HXY := hide (HX.out.trans (H2.out.2.mono HX.out.size))
  have hN4 : N ≤ 401 := H2.out.1.2.1
  go_upto_region 3 with (go_at_call 13; refine (HT.out Y1 HXY.out).mono ?_; rintro e Y ⟨UA, uc, rfl, h1, hB⟩; have H3 := hide (And.intro h1.1 (And.intro ((H2.out.1.1.below hB).more hB.size) (And.intro (HXY.out.trans (hB.mono HXY.out.size)) h1.2.2))); clear hB h1)
  have HF := hide (And.intro H3.out.2.2.2 HN.out)
  have HWY := hide H3.out.2.2.1
  clear H2 HXY HX HC HT HS H1 HN
  have slT := fun W (h : Below Y.heap.size Y W) => (H3.out.2.1.below h).more h.size
  have slU := fun W (h : Below Y.heap.size Y W) => (H3.out.1.below h).more h.size
  have HS := hide (And.intro slT slU)
  clear slT slU H3
  go_upto_region 4 with (go_at_call 30; refine (kep_canon (A := TA) (c := tc) HF.out.2 hN4 Y (HS.out.1 Y (Below.refl _ Y))).mono ?_; rintro e Y2 ⟨CA, cc, rfl, ho, hB⟩; have H4 := hide (And.intro ho hB); clear ho hB)
  go_upto_region 5 with fail
  go_loopw [20] (fun kv wr => ∃ (k : Nat) (M : List Tri), k ≤ N ∧ kv = .int .i64 k ∧ Own encT 9 58 wr Y.heap.size (.slice CA N cc) N M ∧ Below Y.heap.size Y wr) (fun kv _ => N - (intOf kv).toNat)
  case atStart => exact ⟨0, _, by omega, rfl, H4.out.1, H4.out.2⟩
  case round =>
    obtain ⟨k, M, hk, rfl, hO, hB⟩ := hrel
    obtain ⟨V, rfl⟩ : ∃ x, x = wr := ⟨_, rfl⟩
    by_cases hlt : k < N
    · have i1 : (k : Int) < (N : Int) := by omega
      obtain ⟨t, ht⟩ : ∃ t, M[k]? = some t := ⟨_, List.getElem?_eq_getElem (by rw [← hO.1]; exact hlt)⟩
      obtain ⟨g, cap0, hv, hgb, hgl⟩ := hO.at (fun e => by rw [e] at ht; simp at ht)
      obtain rfl : CA = some ⟨g, 0, none⟩ := by injection hv
      obtain ⟨b1, o1, e1, _, z0, _⟩ := (hO.sl encT_len (Nat.le_refl _)).tri ht
      cases e1
      simp only [Nat.zero_add] at z0
      obtain ⟨csb, hcsb⟩ := hO.cells g rfl
      have hfz := Blk.frozen hcsb (k * 9)
      have HO := hide (And.intro hO (And.intro hB (And.intro ht hgb)))
      clear hO hB ht hgb hv hcsb
      go_upto_region 7 with fail
      go_still_tail 10, (by kernel_rfl)
      repeat still_step
      change wpList _ _ _ _ _ V.drew
      go_wp2
      go_roundw
      case rel => exact ⟨k + 1, _, by omega, by go_num, own_set1 HO.out.1.drew HO.out.2.2.1 _, HO.out.2.1.drew.setCell (p := ⟨g, _, none⟩) HO.out.2.2.2 _⟩
      case measure => (simp [intOf]; try omega)
    · obtain rfl : k = N := by omega
      have i1 : ¬ (k : Int) < (k : Int) := by omega
      have HB := hide hB
      clear hB hO hlt hk H4
      obtain ⟨S, hS⟩ := ClsS.some (canonO T)
      have hnP := parts_few hS
      have hflP := (parts_flat HF.out.1 hS.eqB).1
      have kP := fun W h => kep_parts (A := TA) (c := tc) HF.out.2 hS rfl hN4 HF.out.1 W (HS.out.1 W h)
      obtain ⟨P, hP⟩ : ∃ P, P = partsT (canonO T) S (canonO T).length := ⟨_, rfl⟩
      simp only [← hP] at kP hnP hflP
      have hnP := Nat.le_trans hnP (Nat.le_of_eq (canonO_length T))
      rw [← HF.out.2] at hnP hflP
      obtain ⟨np, hnp⟩ : ∃ n, n = P.length := ⟨_, rfl⟩
      simp only [← hnp] at kP hnP
      have KP := hide (And.intro kP (And.intro (fun p hp => (hflP p hp).1) hnp))
      clear kP hflP hnp hP hS
      go_upto_region 10 with (go_at_call 34; refine (KP.out.1 V HB.out).mono ?_; rintro e Z ⟨PA, pc, ss, rfl, hp, hB⟩; have H5 := hide (And.intro hp hB))
      have hZB := HB.out.trans (hB.mono HB.out.size)
      have HZ := hide hZB
      clear hZB hp hB
      go_loopw [37] (fun kv wr => ∃ (q : Nat) (ps : List (List Tri)), q ≤ np ∧ kv = .int .i64 q ∧ PcsK 58 28 wr V.heap.size (.slice PA np pc) ss ps ∧ ps.length = np ∧ (∀ p ∈ ps, p.length ≤ k) ∧ Below V.heap.size V wr) (fun kv _ => np - (intOf kv).toNat)
      case atStart => exact ⟨0, P, by omega, rfl, H5.out.1, KP.out.2.2.symm, KP.out.2.1, H5.out.2⟩
      case round =>
        obtain ⟨q, ps, hq, rfl, hK, hpl, hps, hB⟩ := hrel
        obtain ⟨V2, rfl⟩ : ∃ x, x = wr := ⟨_, rfl⟩
        by_cases hlt : q < np
        · have i2 : (q : Int) < (np : Int) := by omega
          obtain ⟨p, hp⟩ : ∃ p, ps[q]? = some p := ⟨_, List.getElem?_eq_getElem (by rw [hpl]; exact hlt)⟩
          have hpm := hps p (List.mem_of_getElem? hp)
          obtain ⟨A1, c1, hs1, ho1⟩ := hK.2.1.at hp
          obtain ⟨ba, oa, hA1, hl1, x0⟩ := hK.hdr hs1
          subst hA1
          simp only at x0
          obtain ⟨pl, hpl1⟩ : ∃ n, n = p.length := ⟨_, rfl⟩
          rw [← hpl1] at x0 hpm hs1
          have hla : ba < V2.heap.size := hl1
          have HK := hide (And.intro hK (And.intro hpl (And.intro hps (And.intro hB (And.intro hp hpl1)))))
          have HS1 := hide hs1
          clear hK hpl hps hB hp hpl1 hs1 ho1 hl1
          go_upto_region 13 with fail
          go_loopw [43] (fun kv wr => ∃ (r : Nat) (ps : List (List Tri)), r ≤ pl ∧ kv = .int .i64 r ∧ PcsK 58 28 wr V.heap.size (.slice (some ⟨ba, oa, none⟩) np pc) ss ps ∧ ps.length = np ∧ (∀ p ∈ ps, p.length ≤ k) ∧ (∃ p, ps[q]? = some p ∧ p.length = pl) ∧ Below V.heap.size V wr) (fun kv _ => pl - (intOf kv).toNat)
          case atStart => exact ⟨0, ps, by omega, rfl, HK.out.1, HK.out.2.1, HK.out.2.2.1, ⟨p, HK.out.2.2.2.2.1, HK.out.2.2.2.2.2.symm⟩, HK.out.2.2.2.1⟩
          case round =>
            clear HK x0 hla
            obtain ⟨r, ps2, hr, rfl, hK, hpl2, hps2, ⟨p2, hp2, hl2⟩, hB⟩ := hrel
            obtain ⟨R, rfl⟩ : ∃ x, x = wr := ⟨_, rfl⟩
            by_cases hlr : r < pl
            · have i3 : (r : Int) < (pl : Int) := by omega
              obtain ⟨t, ht⟩ : ∃ t, p2[r]? = some t := ⟨_, List.getElem?_eq_getElem (by rw [hl2]; exact hlr)⟩
              obtain ⟨A3, c3, hs3, ho3⟩ := hK.2.1.at hp2
              have he3 := HS1.out
              rw [hs3] at he3
              injection he3 with he3
              obtain ⟨rfl, _, rfl⟩ : A3 = A1 ∧ p2.length = pl ∧ c3 = c1 := by simpa using he3
              obtain ⟨g, cap0, hv, hgb, hgl⟩ := ho3.at (fun e => by rw [e] at ht; simp at ht)
              obtain rfl : A3 = some ⟨g, 0, none⟩ := by injection hv
              obtain ⟨b1, o1, e1, _, z0, _⟩ := (ho3.sl encT_len (Nat.le_refl _)).tri ht
              cases e1
              simp only [Nat.zero_add] at z0
              obtain ⟨csb, hcsb⟩ := ho3.cells g rfl
              have hfz := Blk.frozen hcsb (r * 9)
              have HK := hide (And.intro hK (And.intro hpl2 (And.intro hps2 (And.intro hp2 (And.intro hl2 (And.intro ht (And.intro hB hgb)))))))
              clear hK hpl2 hps2 hp2 hl2 ht hB hgb hv hcsb hs3 ho3 he3
              go_upto_region 15 with fail
              go_still_tail 10, (by kernel_rfl)
              repeat still_step
              change wpList _ _ _ _ _ R.drew
              go_wp2
              go_roundw
              case rel =>
                have hdr := HS1.out
                exact ⟨r + 1, _, by omega, by go_num, HK.out.1.drew.put (by decide) hdr HK.out.2.2.2.1 HK.out.2.2.2.2.2.1 _, by rw [List.length_set]; exact HK.out.2.1, (fun p9 h9 => by
                  rcases List.mem_or_eq_of_mem_set h9 with h | rfl
                  · exact HK.out.2.2.1 p9 h
                  · rw [List.length_set]; exact HK.out.2.2.1 _ (List.mem_of_getElem? HK.out.2.2.2.1)), ⟨_, List.getElem?_set_self (List.getElem?_eq_some_iff.1 HK.out.2.2.2.1).1, by rw [List.length_set]; exact HK.out.2.2.2.2.1⟩, HK.out.2.2.2.2.2.2.1.drew.setCell (p := ⟨g, _, none⟩) HK.out.2.2.2.2.2.2.2 _⟩
              case measure => (simp [intOf]; try omega)
            · obtain rfl : r = pl := by omega
              have i3 : ¬ (r : Int) < (r : Int) := by omega
              have HK := hide (And.intro hK (And.intro hpl2 (And.intro hps2 hB)))
              clear hK hpl2 hps2 hp2 hl2 hB
              go_wp2
              go_roundw
              case rel => exact ⟨q + 1, ps2, by omega, by go_num, HK.out.1, HK.out.2.1, HK.out.2.2.1, HK.out.2.2.2⟩
              case measure => (simp [intOf]; try omega)
        · obtain rfl : q = np := by omega
          have i2 : ¬ (q : Int) < (q : Int) := by omega
          have HYV := hide (HB.out.trans (hB.mono HB.out.size))
          clear hK hpl hps hB hlt hq H5 HZ
          obtain ⟨W20, hW20⟩ : ∃ W, W = V2 := ⟨_, rfl⟩
          rw [← hW20] at HYV ⊢
          have G20 := hide (And.intro HYV.out trivial)
          obtain ⟨E2, hE2⟩ : ∃ E, E = checkP T true := ⟨_, rfl⟩
          have e2 : (E2 == E2) = true := by simp
          have KE := hide hE2.symm
          clear hW20 HYV hE2 KP
          go_wp2_with (first
            | (go_at_call 16; refine (shf_open (A := UA) (c := uc) HF.out.2 KE.out hN4 HF.out.1 W28 (HS.out.2 W28 G28.out.1)).mono ?_; rintro e W29 ⟨rfl, hB⟩; have G29 := hide (And.intro (G28.out.1.trans (hB.mono G28.out.1.size)) trivial); clear hB)
            | (go_at_call 16; refine (shf_open (A := TA) (c := tc) HF.out.2 KE.out hN4 HF.out.1 W27 (HS.out.1 W27 G27.out.1)).mono ?_; rintro e W28 ⟨rfl, hB⟩; have G28 := hide (And.intro (G27.out.1.trans (hB.mono G27.out.1.size)) trivial); clear hB)
            | (go_at_call 29; refine (shf_equal (C := canonO T) (by rw [canonO_length]; exact HF.out.2) (fitsT_canon HF.out.1) (by omega) A6 A7 c6 c7 W26 _ _ G26.out.2.1 G26.out.2.2).mono ?_; rintro e W27 ⟨rfl, kd, hw⟩; have G27 := hide (And.intro (show Below Y.heap.size Y W27 by rw [hw]; exact below_drewN G26.out.1 kd) trivial); clear hw)
            | (go_at_call 30; refine (shf_canon (A := UA) (c := uc) HF.out.2 rfl hN4 W25 (HS.out.2 W25 G25.out.1)).mono ?_; rintro e W26 ⟨A7, c7, rfl, hx, hB⟩; have G26 := hide (And.intro (G25.out.1.trans (hB.mono G25.out.1.size)) (And.intro (G25.out.2.below hB) hx)); clear hx hB)
            | (go_at_call 30; refine (shf_canon (A := TA) (c := tc) HF.out.2 rfl hN4 W24 (HS.out.1 W24 G24.out.1)).mono ?_; rintro e W25 ⟨A6, c6, rfl, hx, hB⟩; have G25 := hide (And.intro (G24.out.1.trans (hB.mono G24.out.1.size)) hx); clear hx hB)
            | (go_at_call 29; refine (shf_equal HF.out.2 HF.out.1 (by omega) TA UA tc uc W23 _ _ (HS.out.1 W23 G23.out.1) (HS.out.2 W23 G23.out.1)).mono ?_; rintro e W24 ⟨rfl, kd, hw⟩; have G24 := hide (And.intro (show Below Y.heap.size Y W24 by rw [hw]; exact below_drewN G23.out.1 kd) trivial); clear hw)
            | (go_at_call 26; refine (shf_vol (A := TA) (c := tc) HF.out.2 rfl hN4 HF.out.1 W22 (HS.out.1 W22 G22.out.1)).mono ?_; rintro e W23 ⟨b1, u1, rfl, hv, hB⟩; have G23 := hide (And.intro (G22.out.1.trans (hB.mono G22.out.1.size)) trivial); clear hv hB)
            | (go_at_call 22; refine (shf_border (A := TA) (c := tc) HF.out.2 rfl hN4 HF.out.1 W21 (HS.out.1 W21 G21.out.1)).mono ?_; rintro e W22 ⟨A4, c4, rfl, hx, hB⟩; have G22 := hide (And.intro (G21.out.1.trans (hB.mono G21.out.1.size)) trivial); clear hx hB)
            | (go_at_call 14; refine (shf_check (A := TA) (c := tc) HF.out.2 rfl hN4 HF.out.1 W20 (HS.out.1 W20 G20.out.1)).mono ?_; rintro e W21 ⟨rfl, hB⟩; have G21 := hide (And.intro (G20.out.1.trans (hB.mono G20.out.1.size)) trivial); clear hB))
          go_ret
          exact ⟨rfl, HWY.out.trans (G29.out.1.mono HWY.out.size)⟩
end Go.Proofs.YtelfnmohpjkilaaGreatDoor
