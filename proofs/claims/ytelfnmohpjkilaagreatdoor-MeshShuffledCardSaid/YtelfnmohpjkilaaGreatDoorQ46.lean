/- Tri. -/
import Derived.WalkKit
import Derived.WalkSpells
import Derived.WalkLawsBesides
import Derived.Laws.OwnMore
import Derived.Deep.AppendLies
import Derived.Deep.Draws
import Derived.Maps.AppendAt
import Derived.OwnWalk
import Derived.Sort.Grow
import Derived.Shelf.GgSortFunc.RowK
import Derived.RangeFuncNested
import Derived.RangeFuncBox
import Derived.Test.YtelfnmohpjkilaaGreatDoorRows
import Derived.Handy
import Derived.Maps.Own
import Derived.Maps.Views
import Derived.DeepKeys4
import Derived.DeepKeys
import Derived.Laws.StructEq
import Derived.Deep.QuietTactic
import Derived.BigQuiet
import Derived.LoopN
import Derived.Laws.EntriesVeiled
import Derived.Shelf.SlSortCmp.QuietGrown
import Derived.Deep.RegionHeld3
import Derived.Deep.DrawnRows
import Derived.Sort.Statements
import Derived.Shelf.SlSortCmp.NoneTotal
import Derived.OrdersHeld
import Derived.OrdersIn
import Derived.RangeFuncCalls
import Derived.OwnWalkIn
import Derived.Deep.CutBlock
import Derived.Deep.DeepCutAuto
import Derived.IntWalk
import Derived.Test.YtelfnmohpjkilaaGreatDoorProg
import Derived.StillTailTactics
import Derived.Deep.WholeRow
import Derived.Great.BuildSlice
import Derived.Great.Walk
import Derived.Test.YtelfnmohpjkilaaGreatDoorQ44
import Derived.Test.YtelfnmohpjkilaaGreatDoorQ45
namespace Go.Proofs.YtelfnmohpjkilaaGreatDoor
open Go.RowKit Go.Sort
theorem vox_fitsT {b : Nat → Bool} {o : Pt} {s : Int} (hr : voxR o s) : FitL (voxP b o s) := by
  intro t ht
  obtain ⟨n, f, hn, _, _, _, hs⟩ := mem_vox ht
  obtain ⟨i, j, l, hi, hj, hl, rfl⟩ := mem_side hs
  obtain ⟨h0, h1, h2, h3⟩ := hr
  have key : ∀ m, m < 8 → fitsP (cor8 (voxC o s n) s m) := fun m hm => by
    have := vox_range (B := 4398046511104) h0.1 (o := o) (by omega) (by omega) (by omega) hn hm
    unfold fitsP fits
    omega
  exact ⟨key _ hi, key _ hj, key _ hl⟩
abbrev vSh (op : Bool) (b0 : Nat) (A : Option Addr) (M c : Nat) (s0 s1 s2 s3 s4 s5 : Int) : Array Value := #[.bool op, .int .u32 b0, .slice A M c, .int .i64 s0, .int .i64 s1, .int .i64 s2, .int .i64 s3, .int .i64 s4, .int .i64 s5]
set_option maxRecDepth 100000 in
set_option maxHeartbeats 32000000 in
theorem tris_any (op : Bool) (b0 : Nat) (A : Option Addr) (c : Nat) (ns : List Int) (s0 s1 s2 s3 s4 s5 : Int) (w : World) (hb0 : b0 < 4294967296) (hs : ns ≠ [] → Sl encZ4 1 w w.heap.size A ns) (hf : ∀ n ∈ ns, fits n) (hlc : ns.length ≤ c) (hlm : ns.length ≤ 9223372036854775807) :
    Calls Tryz.prog 13 #[.agg (vSh op b0 A ns.length c s0 s1 s2 s3 s4 s5)] w fun e w' => ∃ v, e = .returned v ∧ SpoR w w' 400 v := by
  obtain ⟨b, hb⟩ : ∃ b, b = b0 % 134217728 := ⟨_, rfl⟩
  have hb27 : b < 134217728 := by omega
  have ha := and_27 b0
  rw [← hb] at ha
  obtain ⟨r, hr6⟩ : ∃ r, r = b0 % 6 := ⟨_, rfl⟩
  have er : (b0 : Int) % 6 = (r : Int) := by omega
  have hr6b : r < 6 := by omega
  obtain ⟨m, hm⟩ : ∃ m, m = min ns.length 49 := ⟨_, rfl⟩
  have hml : m ≤ ns.length := by omega
  have hm49 : m ≤ 49 := by omega
  have hrunH : ∀ V : World, (Instr.slice 23 (.slice A ns.length c) none (some (.int .i64 m)) none).run Tryz.prog V = .ok (.slice A m c) V := fun V => run_cutH Tryz.underlying23 Tryz.sizeOf3 hml hlc V
  have hmin : min (ns.length : Int) 49 = (m : Int) := by omega
  have hvr : voxR (10, 20, 30) 2 := by unfold voxR; dsimp only; omega
  have hvx := fun W => voxels_any b hb27 2 (10, 20, 30) W hvr
  have hml2 : (ns.take m).length = m := by rw [List.length_take]; omega
  have hhl := fun W (hW : Below w.heap.size w W) => hills_any r A c (ns.take m) W (fun h => by
    have hne : ns ≠ [] := fun e => h (by rw [e]; simp)
    exact (((hs hne).below hW).more hW.size).take8 m) (by omega) (fun n hn => hf n (List.mem_of_mem_take hn))
  simp only [hml2] at hhl
  have hvf := vox_fitsT (b := b.testBit) hvr
  have hvl := voxP_le b.testBit (10, 20, 30) 2
  obtain ⟨M, hM⟩ : ∃ M, M = ns.length := ⟨_, rfl⟩
  rw [← hM] at hrunH hmin ⊢
  have HV := hide (And.intro hvx (And.intro hvf hvl))
  have HH := hide hhl
  have HR := hide (And.intro hrunH hmin)
  have hMm : M ≤ 9223372036854775807 := by omega
  clear hvx hvf hvl hhl hs hf hM hlc hb hr6 hm hml hml2 hvr hrunH hmin hlm
  go_enter Tryz.func13, Tryz.ntmps13
  go_upto_region 1 with fail
  obtain ⟨xb, hxb⟩ : ∃ g, g = w.heap.size := ⟨_, rfl⟩
  obtain ⟨W0, hW0⟩ : ∃ W, W = w.alloc (.cells (vSh op b0 A M c s0 s1 s2 s3 s4 s5) 26) := ⟨_, rfl⟩
  rw [← hW0, ← hxb]
  have hbx : Blk W0 xb 26 (vSh op b0 A M c s0 s1 s2 s3 s4 s5) := by rw [hW0, hxb]; exact Blk.new _ _ _
  have hB0 : Below w.heap.size w W0 := by rw [hW0]; exact (Below.refl _ w).alloc (Nat.le_refl _) _
  have H0 := hide (And.intro hbx (And.intro hB0 hbx.lt))
  clear hbx hB0 hW0 hxb
  have x1 : W0.cell? ⟨xb, 1, none⟩ = some (.int .u32 b0) := H0.out.1.cell 1
  go_upto_region 2 with (go_at_call 40; refine (HV.out.1 W0).mono ?_; rintro e X ⟨v1, rfl, ho, hB⟩; have H1 := hide (And.intro ho hB); clear ho hB)
  clear x1 ha
  have hbX := H0.out.1.below H1.out.2 H0.out.2.2
  have x0 : X.cell? ⟨xb, 0, none⟩ = some (.bool op) := hbX.cell 0
  have x1 : X.cell? ⟨xb, 1, none⟩ = some (.int .u32 b0) := hbX.cell 1
  have x2 : X.cell? ⟨xb, 2, none⟩ = some (.slice A M c) := hbX.cell 2
  have hxl := hbX.lt
  have HX := hide hbX
  clear hbX
  go_upto_if 11 with fail
  go_cut [3] (fun v wx => ∃ (N : Nat) (L : List Tri), Own encT 9 58 wx W0.heap.size v N L ∧ N ≤ 324 ∧ FitL L ∧ Below W0.heap.size W0 wx)
  case first =>
    cases op with
    | false =>
      go_wp2
      go_meet
      case rel => exact ⟨_, _, H1.out.1, HV.out.2.2, HV.out.2.1, H1.out.2⟩
    | true =>
      go_upto_region 3 with fail
      have hrunH := HR.out.1
      have hmin := HR.out.2
      go_still_tail 11, (by kernel_rfl)
      repeat still_step
      change wpList _ _ _ _ _ X.drew
      go_wp2_with fail
      go_at_call 41
      rw [er]
      with_reducible refine (HH.out X.drew (H0.out.2.1.trans (H1.out.2.drew.mono H0.out.2.1.size))).mono ?_
      rintro e X2 ⟨v2, L2, rfl, ho, hl, hf, hB⟩
      have h1 := ho.base_le (show W0.heap.size ≤ X.drew.heap.size from H1.out.2.size)
      have h2 := H1.out.2.drew.trans (hB.mono H1.out.2.size)
      have H2 := hide (And.intro h1 (And.intro hl (And.intro hf h2)))
      clear ho hl hf hB h1 h2
      go_wp2_with fail
      go_meet
      case rel => exact ⟨_, L2, H2.out.1, by have := H2.out.2.1; omega, H2.out.2.2.1, H2.out.2.2.2⟩
  case rest =>
  obtain ⟨N, L, hO, hN, hL, hB⟩ := hcut
  obtain ⟨Y, rfl⟩ : ∃ W, W = wc := ⟨_, rfl⟩
  obtain ⟨A3, c3, rfl⟩ := hO.form
  clear x0 x1 x2 hxl
  have hbY := H0.out.1.below hB H0.out.2.2
  have x3 : Y.cell? ⟨xb, 3, none⟩ = some (.int .i64 s0) := hbY.cell 3
  have x4 : Y.cell? ⟨xb, 4, none⟩ = some (.int .i64 s1) := hbY.cell 4
  have x5 : Y.cell? ⟨xb, 5, none⟩ = some (.int .i64 s2) := hbY.cell 5
  have hxl := hbY.lt
  have k1 := spoiled_any A3 c3 L s0 s1 s2 Y (hO.sl encT_len (Nat.le_refl _)) (by have := hO.1; omega) hL
  have hNl := hO.1
  rw [← hNl] at k1
  have K1 := hide k1
  have HY := hide (And.intro hbY (And.intro hB hN))
  clear k1 hbY hO hL hNl hB hN
  go_upto_region 5 with (go_at_call 28; refine K1.out.mono ?_; rintro e Z ⟨v, rfl, L2, ho, hl, hf, hB⟩; obtain ⟨A4, c4, rfl⟩ := ho.form; have H3 := hide (And.intro ho (And.intro hl (And.intro hf hB))); clear ho hl hf hB)
  clear x3 x4 x5 hxl
  have hbZ := HY.out.1.below H3.out.2.2.2 HY.out.1.lt
  have x6 : Z.cell? ⟨xb, 6, none⟩ = some (.int .i64 s3) := hbZ.cell 6
  have x7 : Z.cell? ⟨xb, 7, none⟩ = some (.int .i64 s4) := hbZ.cell 7
  have x8 : Z.cell? ⟨xb, 8, none⟩ = some (.int .i64 s5) := hbZ.cell 8
  have hxl := hbZ.lt
  obtain ⟨N2, hN2⟩ : ∃ n, n = L2.length := ⟨_, rfl⟩
  have k2 := spoiled_any A4 c4 L2 s3 s4 s5 Z (H3.out.1.sl encT_len (Nat.le_refl _)) (by have := H3.out.2.1; have := HY.out.2.2; omega) H3.out.2.2.1
  have hN2b : N2 ≤ 325 := by have := H3.out.2.1; have := HY.out.2.2; omega
  rw [← hN2] at k2 ⊢
  have K2 := hide k2
  have HZ := hide (H0.out.2.1.trans ((HY.out.2.1.trans (H3.out.2.2.2.mono HY.out.2.1.size)).mono H0.out.2.1.size))
  clear k2 hbZ hN2
  go_wp2_with (go_at_call 28; refine K2.out.mono ?_; rintro e U ⟨v, rfl, L3, ho, hl, hf, hB⟩; have h8 : SpoR w U 400 v := ⟨L3, ho.base_le HZ.out.size, by omega, hf, HZ.out.trans (hB.mono HZ.out.size)⟩; have H8 := hide h8; clear ho hl hf hB h8)
  go_ret
  exact ⟨_, rfl, H8.out⟩
end Go.Proofs.YtelfnmohpjkilaaGreatDoor
