/- San4. -/
import Derived.WalkKit
import Derived.WalkSpells
import Derived.WalkLawsBesides
import Derived.Laws.OwnMore
import Derived.Deep.AppendLies
import Derived.Deep.Draws
import Derived.Maps.AppendAt
import Derived.OwnWalk
import Derived.Sort.Grow
import Derived.Shelf.GgSortFunc.RowK
import Derived.RangeFuncNested
import Derived.RangeFuncBox
import Derived.Test.YtelfnmohpjkilaaGreatDoorRows
import Derived.Handy
import Derived.Maps.Own
import Derived.Maps.Views
import Derived.DeepKeys4
import Derived.DeepKeys
import Derived.Laws.StructEq
import Derived.Deep.QuietTactic
import Derived.BigQuiet
import Derived.LoopN
import Derived.Laws.EntriesVeiled
import Derived.Shelf.SlSortCmp.QuietGrown
import Derived.Deep.RegionHeld3
import Derived.Deep.DrawnRows
import Derived.Sort.Statements
import Derived.Shelf.SlSortCmp.NoneTotal
import Derived.OrdersHeld
import Derived.OrdersIn
import Derived.RangeFuncCalls
import Derived.OwnWalkIn
import Derived.Deep.CutBlock
import Derived.Deep.DeepCutAuto
import Derived.Maps.OwnSet
import Derived.Maps.RangeWalk
import Derived.IntWalk
import Derived.Deep.MidRow
import Derived.StillTailTactics
import Derived.Shelf.RegionOpen
import Derived.Lib.Strings
import Derived.Lib.Slices
import Derived.Lib.Walk
import Derived.Lib.TrimByte
import Derived.Laws.Strings3
import Derived.Laws.Bits64b
import Derived.Laws.BytesArg
import Derived.RangeFuncBound
import Derived.RangeFuncLeaves
import Derived.TacticsInMore
import Derived.LoopNIn
import Derived.LoopIn
import Derived.Laws.IdiomStrings
import Derived.WideKeyEntry
import Derived.Deep.WholeRow
import Derived.Test.YtelfnmohpjkilaaGreatDoorQ37
namespace Go.Proofs.YtelfnmohpjkilaaGreatDoor
open Go.RowKit Go.Sort
/-- The four points and the two lists. -/
structure SanS (w0 w : World) (bo bx by1 bz tb ub : Nat) : Prop where
  o : Blk w bo 41 #[.int .i64 0, .int .i64 0, .int .i64 0]
  x : Blk w bx 41 #[.int .i64 1, .int .i64 0, .int .i64 0]
  y : Blk w by1 41 #[.int .i64 0, .int .i64 1, .int .i64 0]
  z : Blk w bz 41 #[.int .i64 0, .int .i64 0, .int .i64 1]
  t : Blk w tb 58 (tetP.flatMap encT).toArray
  u : Blk w ub 58 (turP.flatMap encT).toArray
  bel : Below w0.heap.size w0 w
theorem SanS.on {w0 w w' : World} {bo bx by1 bz tb ub : Nat} (h : SanS w0 w bo bx by1 bz tb ub) (hb : Below w.heap.size w w') : SanS w0 w' bo bx by1 bz tb ub :=
  ⟨h.o.below hb h.o.lt, h.x.below hb h.x.lt, h.y.below hb h.y.lt, h.z.below hb h.z.lt, h.t.below hb h.t.lt, h.u.below hb h.u.lt, h.bel.trans (hb.mono h.bel.size)⟩
section
variable {w0 W : World} {bo bx by1 bz tb ub : Nat}
theorem sn_check (h : SanS w0 W bo bx by1 bz tb ub) : Calls Tryz.prog 14 #[.slice (some ⟨tb, 0, none⟩) 4 4] W fun e w' => e = .returned (.int .i64 0) ∧ Below W.heap.size W w' := by
  have := Check4_any (some ⟨tb, 0, none⟩) 4 tetP W (Sl.of_blk encT_len h.t h.t.lt) (by decide) tet_fits
  rw [tet_check] at this
  exact this
theorem sn_euler (h : SanS w0 W bo bx by1 bz tb ub) : Calls Tryz.prog 36 #[.slice (some ⟨tb, 0, none⟩) 4 4] W fun e w' => e = .returned (.int .i64 2) ∧ Below W.heap.size W w' := by
  have := euler4_any (some ⟨tb, 0, none⟩) 4 tetP W (Sl.of_blk encT_len h.t h.t.lt) (by decide) tet_fits
  rw [tet_euler] at this
  exact this
theorem one_wide : WideN (nvalV false [1]) 1 := ⟨false, [1], rfl, (by decide : ∀ d ∈ [1], d < 256), rfl, rfl, fun _ => rfl⟩
theorem sn_vol (h : SanS w0 W bo bx by1 bz tb ub) (s : ByteArray) (hs : s = strL [1]) : Calls Tryz.prog 26 #[.slice (some ⟨tb, 0, none⟩) 4 4] W fun e w' => e = .returned (.agg #[.bool false, .string s]) ∧ Below W.heap.size W w' := by
  subst hs
  refine Calls.mono (volume4_any (some ⟨tb, 0, none⟩) 4 tetP W (Sl.of_blk encT_len h.t h.t.lt) (by decide) tet_fits) ?_
  rintro e w' ⟨v, rfl, hv, hB⟩
  rw [show vol6 tetP = 1 by decide] at hv
  exact ⟨by rw [hv.uniq one_wide]; rfl, hB⟩
theorem sn_from (W : World) (s : ByteArray) (hs : s = strL [1]) : Calls Tryz.prog 38 #[.int .i64 1] W fun e w' => e = .returned (.agg #[.bool false, .string s]) ∧ Below W.heap.size W w' := by
  subst hs
  refine Calls.mono (fromW_any 1 (by omega) W) ?_
  rintro e w' ⟨b, s, rfl, hv, hB⟩
  exact ⟨by rw [hv.toN.uniq one_wide]; rfl, hB⟩
theorem sn_check3 (h : SanS w0 W bo bx by1 bz tb ub) : Calls Tryz.prog 14 #[.slice (some ⟨tb, 0, none⟩) 3 4] W fun e w' => e = .returned (.int .i64 22) ∧ Below W.heap.size W w' := by
  have := Check4_any (some ⟨tb, 0, none⟩) 4 (tetP.take 3) W ((Sl.of_blk encT_len h.t h.t.lt).take8 3) (by decide) (fun t ht => tet_fits t (List.mem_of_mem_take ht))
  rw [tet3_check] at this
  exact this
theorem sn_open3 (h : SanS w0 W bo bx by1 bz tb ub) : Calls Tryz.prog 16 #[.slice (some ⟨tb, 0, none⟩) 3 4] W fun e w' => e = .returned (.int .i64 0) ∧ Below W.heap.size W w' := by
  have := CheckOpen4_any (some ⟨tb, 0, none⟩) 4 (tetP.take 3) W ((Sl.of_blk encT_len h.t h.t.lt).take8 3) (by decide) (fun t ht => tet_fits t (List.mem_of_mem_take ht))
  rw [tet3_open] at this
  exact this
theorem sn_border3 (h : SanS w0 W bo bx by1 bz tb ub) : Calls Tryz.prog 22 #[.slice (some ⟨tb, 0, none⟩) 3 4] W fun e w' => ∃ A c, e = .returned (.slice A 3 c) ∧ Sl encE 6 w' w'.heap.size A [(kZ, kY), (kY, kX), (kX, kZ)] ∧ Below W.heap.size W w' := by
  have := Border4_any (some ⟨tb, 0, none⟩) 4 (tetP.take 3) W ((Sl.of_blk encT_len h.t h.t.lt).take8 3) (by decide) (fun t ht => tet_fits t (List.mem_of_mem_take ht))
  rw [tet3_border] at this
  refine Calls.mono this ?_
  rintro e w' ⟨v, rfl, ho, hB⟩
  obtain ⟨A, c, rfl⟩ := ho.form
  exact ⟨A, c, rfl, ho.sl encE_len (Nat.le_refl _), hB⟩
theorem sn_pairs (W : World) (A : Option Addr) (c n1 g n2 : Nat) (h1 : Sl encE 6 W n1 A [(kZ, kY), (kY, kX), (kX, kZ)]) (h2 : Sl encE 6 W n2 (some ⟨g, 0, none⟩) [(kZ, kY), (kY, kX), (kX, kZ)]) : Calls Tryz.prog 21 #[.slice A 3 c, .slice (some ⟨g, 0, none⟩) 3 3] W fun e w' => e = .returned (.bool true) ∧ ∃ k, w' = W.drewN k := by
  have hf : ∀ e ∈ [(kZ, kY), (kY, kX), (kX, kZ)], fitsE e := fun e he => by
    have : (fitsP kX ∧ fitsP kY) ∧ fitsP kZ := by decide
    simp only [List.mem_cons, List.not_mem_nil, or_false] at he
    rcases he with rfl | rfl | rfl
    · exact ⟨this.2, this.1.2⟩
    · exact ⟨this.1.2, this.1.1⟩
    · exact ⟨this.1.1, this.2⟩
  have := prs4_any A (some ⟨g, 0, none⟩) c 3 _ _ W n1 n2 h1 h2 (by decide) (by decide) hf hf
  rw [decide_eq_true (rfl : [(kZ, kY), (kY, kX), (kX, kZ)] = [(kZ, kY), (kY, kX), (kX, kZ)])] at this
  exact this
theorem sn_checku (h : SanS w0 W bo bx by1 bz tb ub) : Calls Tryz.prog 14 #[.slice (some ⟨ub, 0, none⟩) 4 4] W fun e w' => e = .returned (.int .i64 21) ∧ Below W.heap.size W w' := by
  have := Check4_any (some ⟨ub, 0, none⟩) 4 turP W (Sl.of_blk encT_len h.u h.u.lt) (by decide) tur_fits
  rw [tur_check] at this
  exact this
theorem sn_checkt (W : World) (A : Option Addr) (c : Nat) (h : Sl encT 9 W W.heap.size A twiP) : Calls Tryz.prog 14 #[.slice A 8 c] W fun e w' => e = .returned (.int .i64 23) ∧ Below W.heap.size W w' := by
  have := Check4_any A c twiP W h (by decide) twi_fits
  rw [twi_check] at this
  exact this
theorem sn_rot (W : World) : Calls Tryz.prog 39 #[.agg #[.int .i64 0, .int .i64 0, .int .i64 1, .int .i64 0, .int .i64 1, .int .i64 0, .int .i64 0, .int .i64 0, .int .i64 0]] W fun e w' => e = .returned (.agg #[.int .i64 0, .int .i64 0, .int .i64 0, .int .i64 0, .int .i64 0, .int .i64 1, .int .i64 0, .int .i64 1, .int .i64 0]) ∧ Below W.heap.size W w' := by
  have := rotate_any (kZ, kY, kO) W
  rw [rot_zyo] at this
  exact Calls.mono this fun _ _ ⟨h1, h2⟩ => ⟨h1, h2.below⟩
theorem sn_eq (W : World) : (Op.equalIn 10000 58 (.agg #[.int .i64 0, .int .i64 0, .int .i64 0, .int .i64 0, .int .i64 0, .int .i64 1, .int .i64 0, .int .i64 1, .int .i64 0]) (.agg #[.int .i64 0, .int .i64 0, .int .i64 0, .int .i64 0, .int .i64 0, .int .i64 1, .int .i64 0, .int .i64 1, .int .i64 0])).run Tryz.prog W = .ok true W := by
  have := eqT (kO, kZ, kY) (kO, kZ, kY) (by decide) (by decide) W
  rw [decide_eq_true rfl] at this
  exact this
end
theorem tet_small : ∀ t ∈ tetP, ((0 ≤ t.1.1 ∧ t.1.1 ≤ 1) ∧ (0 ≤ t.1.2.1 ∧ t.1.2.1 ≤ 1) ∧ (0 ≤ t.1.2.2 ∧ t.1.2.2 ≤ 1)) ∧ ((0 ≤ t.2.1.1 ∧ t.2.1.1 ≤ 1) ∧ (0 ≤ t.2.1.2.1 ∧ t.2.1.2.1 ≤ 1) ∧ (0 ≤ t.2.1.2.2 ∧ t.2.1.2.2 ≤ 1)) ∧ ((0 ≤ t.2.2.1 ∧ t.2.2.1 ≤ 1) ∧ (0 ≤ t.2.2.2.1 ∧ t.2.2.2.1 ≤ 1) ∧ (0 ≤ t.2.2.2.2 ∧ t.2.2.2.2 ≤ 1)) := by decide
theorem grownBy_setAt4 (W : World) (b i : Nat) (v : Value) : W.grownBy (W.setCell ⟨b, i, none⟩ v) (some b) :=
  ⟨rfl, rfl, rfl, (KeepsWalks.setCell W _ v).size, fun k _ hne => Below.heap_setCell W ⟨b, i, none⟩ v k (fun e => hne (by rw [e]))⟩
def negK (t : Tri) (k : Nat) : Tri := (if 0 < k then negP4 t.1 else t.1, if 1 < k then negP4 t.2.1 else t.2.1, if 2 < k then negP4 t.2.2 else t.2.2)
theorem Own.set3 {w : World} {base sb : Nat} {v : Value} {n : Nat} {xs : List Tri} (h : Own encT 9 58 w base v n xs) (hn : v.ownBlock ≠ some sb) (i j k : Nat) (x y z : Value) : Own encT 9 58 (((w.setCell ⟨sb, i, none⟩ x).setCell ⟨sb, j, none⟩ y).setCell ⟨sb, k, none⟩ z) base v n xs :=
  ((h.kept (grownBy_setAt4 _ sb i x) (.inr hn)).kept (grownBy_setAt4 _ sb j y) (.inr hn)).kept (grownBy_setAt4 _ sb k z) (.inr hn)
set_option maxRecDepth 100000 in
set_option maxHeartbeats 32000000 in
theorem sanity4_any (w : World) : Calls Tryz.prog 12 #[] w fun e w' => e = .returned (.bool true) ∧ Below w.heap.size w w' := by
  go_enter Tryz.func12, Tryz.ntmps12
  go_upto_region 3 with fail
  obtain ⟨X, hX⟩ : ∃ X, X = ((((w.alloc (.cells #[.int .i64 0, .int .i64 0, .int .i64 0] 41)).alloc (.cells #[.int .i64 1, .int .i64 0, .int .i64 0] 41)).alloc (.cells #[.int .i64 0, .int .i64 1, .int .i64 0] 41)).alloc (.cells #[.int .i64 0, .int .i64 0, .int .i64 1] 41)).alloc (.cells #[.int .i64 0, .int .i64 0, .int .i64 0, .int .i64 0, .int .i64 1, .int .i64 0, .int .i64 1, .int .i64 0, .int .i64 0, .int .i64 0, .int .i64 0, .int .i64 0, .int .i64 1, .int .i64 0, .int .i64 0, .int .i64 0, .int .i64 0, .int .i64 1, .int .i64 0, .int .i64 0, .int .i64 0, .int .i64 0, .int .i64 0, .int .i64 1, .int .i64 0, .int .i64 1, .int .i64 0, .int .i64 1, .int .i64 0, .int .i64 0, .int .i64 0, .int .i64 1, .int .i64 0, .int .i64 0, .int .i64 0, .int .i64 1] 58) := ⟨_, rfl⟩
  rw [← hX]
  have hbo : Blk X w.heap.size 41 #[.int .i64 0, .int .i64 0, .int .i64 0] := by rw [hX]; exact ((((Blk.new _ _ _).alloc _).alloc _).alloc _).alloc _
  have hbx : Blk X (w.heap.size + 1) 41 #[.int .i64 1, .int .i64 0, .int .i64 0] := by rw [hX]; exact (((Blk.new' _ _ _ _ (by simp)).alloc _).alloc _).alloc _
  have hby : Blk X (w.heap.size + 1 + 1) 41 #[.int .i64 0, .int .i64 1, .int .i64 0] := by rw [hX]; exact ((Blk.new' _ _ _ _ (by simp)).alloc _).alloc _
  have hbz : Blk X (w.heap.size + 1 + 1 + 1) 41 #[.int .i64 0, .int .i64 0, .int .i64 1] := by rw [hX]; exact (Blk.new' _ _ _ _ (by simp)).alloc _
  have htb : Blk X (w.heap.size + 1 + 1 + 1 + 1) 58 (tetP.flatMap encT).toArray := by rw [hX]; exact Blk.new' _ _ _ _ (by simp)
  have hBX : Below w.heap.size w X := by rw [hX]; exact (((((Below.refl _ w).alloc (Nat.le_refl _) _).alloc (by simp) _).alloc (by simp; omega) _).alloc (by simp; omega) _).alloc (by simp; omega) _
  obtain ⟨tb, etb⟩ : ∃ b, b = w.heap.size + 1 + 1 + 1 + 1 := ⟨_, rfl⟩
  rw [← etb] at htb ⊢
  obtain ⟨bz, ebz⟩ : ∃ b, b = w.heap.size + 1 + 1 + 1 := ⟨_, rfl⟩
  rw [← ebz] at hbz ⊢
  obtain ⟨by1, eby⟩ : ∃ b, b = w.heap.size + 1 + 1 := ⟨_, rfl⟩
  rw [← eby] at hby ⊢
  obtain ⟨bx, ebx⟩ : ∃ b, b = w.heap.size + 1 := ⟨_, rfl⟩
  rw [← ebx] at hbx ⊢
  obtain ⟨bo, ebo⟩ : ∃ b, b = w.heap.size := ⟨_, rfl⟩
  rw [← ebo] at hbo ⊢
  have HX := hide (And.intro hbo (And.intro hbx (And.intro hby (And.intro hbz (And.intro htb hBX)))))
  have HW := hide ebo
  clear hbo hbx hby hbz htb hBX etb ebz eby ebx ebo hX
  have HQ := hide (show Blk X.drew bo 41 #[.int .i64 0, .int .i64 0, .int .i64 0] ∧ Blk X.drew bx 41 #[.int .i64 1, .int .i64 0, .int .i64 0] ∧ Blk X.drew bz 41 #[.int .i64 0, .int .i64 0, .int .i64 1] ∧ Blk X.drew tb 58 (tetP.flatMap encT).toArray from ⟨HX.out.1, HX.out.2.1, HX.out.2.2.2.1, HX.out.2.2.2.2.1⟩)
  have HF := hide (show ∀ W : World, (Blk W bo 41 #[.int .i64 0, .int .i64 0, .int .i64 0] ∧ Blk W bx 41 #[.int .i64 1, .int .i64 0, .int .i64 0] ∧ Blk W bz 41 #[.int .i64 0, .int .i64 0, .int .i64 1] ∧ Blk W tb 58 (tetP.flatMap encT).toArray) → (W.cell? ⟨bo, 0, none⟩ = some (.int .i64 0) ∧ W.cell? ⟨bo, 1, none⟩ = some (.int .i64 0) ∧ W.cell? ⟨bo, 2, none⟩ = some (.int .i64 0) ∧ W.cell? ⟨bx, 0, none⟩ = some (.int .i64 1) ∧ W.cell? ⟨bx, 1, none⟩ = some (.int .i64 0) ∧ W.cell? ⟨bx, 2, none⟩ = some (.int .i64 0) ∧ W.cell? ⟨bz, 0, none⟩ = some (.int .i64 0) ∧ W.cell? ⟨bz, 1, none⟩ = some (.int .i64 0) ∧ W.cell? ⟨bz, 2, none⟩ = some (.int .i64 1)) ∧ (W.cell? ⟨tb, 0, none⟩ = some (.int .i64 0) ∧ W.cell? ⟨tb, 1, none⟩ = some (.int .i64 0) ∧ W.cell? ⟨tb, 2, none⟩ = some (.int .i64 0) ∧ W.cell? ⟨tb, 3, none⟩ = some (.int .i64 0) ∧ W.cell? ⟨tb, 4, none⟩ = some (.int .i64 1) ∧ W.cell? ⟨tb, 5, none⟩ = some (.int .i64 0) ∧ W.cell? ⟨tb, 6, none⟩ = some (.int .i64 1) ∧ W.cell? ⟨tb, 7, none⟩ = some (.int .i64 0) ∧ W.cell? ⟨tb, 8, none⟩ = some (.int .i64 0)) ∧ (W.cell? ⟨tb, 18, none⟩ = some (.int .i64 0) ∧ W.cell? ⟨tb, 19, none⟩ = some (.int .i64 0) ∧ W.cell? ⟨tb, 20, none⟩ = some (.int .i64 0) ∧ W.cell? ⟨tb, 21, none⟩ = some (.int .i64 0) ∧ W.cell? ⟨tb, 22, none⟩ = some (.int .i64 0) ∧ W.cell? ⟨tb, 23, none⟩ = some (.int .i64 1) ∧ W.cell? ⟨tb, 24, none⟩ = some (.int .i64 0) ∧ W.cell? ⟨tb, 25, none⟩ = some (.int .i64 1) ∧ W.cell? ⟨tb, 26, none⟩ = some (.int .i64 0)) ∧ (W.cell? ⟨tb, 27, none⟩ = some (.int .i64 1) ∧ W.cell? ⟨tb, 28, none⟩ = some (.int .i64 0) ∧ W.cell? ⟨tb, 29, none⟩ = some (.int .i64 0) ∧ W.cell? ⟨tb, 30, none⟩ = some (.int .i64 0) ∧ W.cell? ⟨tb, 31, none⟩ = some (.int .i64 1) ∧ W.cell? ⟨tb, 32, none⟩ = some (.int .i64 0) ∧ W.cell? ⟨tb, 33, none⟩ = some (.int .i64 0) ∧ W.cell? ⟨tb, 34, none⟩ = some (.int .i64 0) ∧ W.cell? ⟨tb, 35, none⟩ = some (.int .i64 1)) from fun W h => ⟨⟨h.1.cell 0, h.1.cell 1, h.1.cell 2, h.2.1.cell 0, h.2.1.cell 1, h.2.1.cell 2, h.2.2.1.cell 0, h.2.2.1.cell 1, h.2.2.1.cell 2⟩, ⟨h.2.2.2.cell 0, h.2.2.2.cell 1, h.2.2.2.cell 2, h.2.2.2.cell 3, h.2.2.2.cell 4, h.2.2.2.cell 5, h.2.2.2.cell 6, h.2.2.2.cell 7, h.2.2.2.cell 8⟩, ⟨h.2.2.2.cell 18, h.2.2.2.cell 19, h.2.2.2.cell 20, h.2.2.2.cell 21, h.2.2.2.cell 22, h.2.2.2.cell 23, h.2.2.2.cell 24, h.2.2.2.cell 25, h.2.2.2.cell 26⟩, ⟨h.2.2.2.cell 27, h.2.2.2.cell 28, h.2.2.2.cell 29, h.2.2.2.cell 30, h.2.2.2.cell 31, h.2.2.2.cell 32, h.2.2.2.cell 33, h.2.2.2.cell 34, h.2.2.2.cell 35⟩⟩)
  go_cut [6] (fun v wx => ∃ ub : Nat, v = .slice (some ⟨ub, 0, none⟩) 4 4 ∧ SanS w wx bo bx by1 bz tb ub)
  case first =>
    refine wp_region_mix (fun W => Blk W bo 41 #[.int .i64 0, .int .i64 0, .int .i64 0] ∧ Blk W bx 41 #[.int .i64 1, .int .i64 0, .int .i64 0] ∧ Blk W bz 41 #[.int .i64 0, .int .i64 0, .int .i64 1] ∧ Blk W tb 58 (tetP.flatMap encT).toArray) [0, 1, 2, 3, 4, 5, 6, 7, 8, 9, 10, 11, 12] [0, 1, 2, 3, 4, 5, 6, 7, 8, 9, 10, 11, 12, 13, 14] mixed_ok (by kernel_rfl) ?_
    refine wpMix_q (v := .slice (some ⟨tb, 0, none⟩) 4 4) rfl rfl (fun _ _ _ h => h) HQ.out ⟨rfl, fun _ _ => by simp [go_sem]⟩ ?_
    simp only [List.getElem_toArray, List.getElem_cons_zero, Act.put, List.setIfInBounds_toArray, List.set_cons_succ, List.set_cons_zero]
    refine wpMix_q (v := .pointer (some ⟨tb, 0, none⟩)) rfl rfl (fun _ _ _ h => h) HQ.out ⟨rfl, fun _ _ => by simp [go_sem]⟩ ?_
    simp only [List.getElem_toArray, List.getElem_cons_succ, List.getElem_cons_zero, Act.put, List.setIfInBounds_toArray, List.set_cons_succ, List.set_cons_zero]
    refine wpMix_q (v := .agg #[.int .i64 0, .int .i64 0, .int .i64 0, .int .i64 0, .int .i64 1, .int .i64 0, .int .i64 1, .int .i64 0, .int .i64 0]) rfl rfl (fun _ _ _ h => h) HQ.out ⟨rfl, fun W h => by obtain ⟨_, ⟨a0, a1, a2, a3, a4, a5, a6, a7, a8⟩, _, _⟩ := HF.out W h; simp [go_sem, a0, a1, a2, a3, a4, a5, a6, a7, a8]⟩ ?_
    simp only [List.getElem_toArray, List.getElem_cons_succ, List.getElem_cons_zero, Act.put, List.setIfInBounds_toArray, List.set_cons_succ, List.set_cons_zero]
    refine wpMix_q (v := .agg #[.int .i64 0, .int .i64 0, .int .i64 0]) rfl rfl (fun _ _ _ h => h) HQ.out ⟨rfl, fun W h => by obtain ⟨⟨a0, a1, a2, _, _, _, _, _, _⟩, _, _, _⟩ := HF.out W h; simp [go_sem, a0, a1, a2]⟩ ?_
    simp only [List.getElem_toArray, List.getElem_cons_succ, List.getElem_cons_zero, Act.put, List.setIfInBounds_toArray, List.set_cons_succ, List.set_cons_zero]
    refine wpMix_q (v := .agg #[.int .i64 0, .int .i64 0, .int .i64 1]) rfl rfl (fun _ _ _ h => h) HQ.out ⟨rfl, fun W h => by obtain ⟨⟨_, _, _, _, _, _, a0, a1, a2⟩, _, _, _⟩ := HF.out W h; simp [go_sem, a0, a1, a2]⟩ ?_
    simp only [List.getElem_toArray, List.getElem_cons_succ, List.getElem_cons_zero, Act.put, List.setIfInBounds_toArray, List.set_cons_succ, List.set_cons_zero]
    refine wpMix_q (v := .agg #[.int .i64 1, .int .i64 0, .int .i64 0]) rfl rfl (fun _ _ _ h => h) HQ.out ⟨rfl, fun W h => by obtain ⟨⟨_, _, _, a0, a1, a2, _, _, _⟩, _, _, _⟩ := HF.out W h; simp [go_sem, a0, a1, a2]⟩ ?_
    simp only [List.getElem_toArray, List.getElem_cons_succ, List.getElem_cons_zero, Act.put, List.setIfInBounds_toArray, List.set_cons_succ, List.set_cons_zero]
    refine wpMix_q (v := .agg #[.int .i64 0, .int .i64 0, .int .i64 0, .int .i64 0, .int .i64 0, .int .i64 1, .int .i64 1, .int .i64 0, .int .i64 0]) rfl rfl (fun _ _ _ h => h) HQ.out ⟨rfl, fun _ _ => by simp [go_sem]⟩ ?_
    simp only [List.getElem_toArray, List.getElem_cons_succ, List.getElem_cons_zero, Act.put, List.setIfInBounds_toArray, List.set_cons_succ, List.set_cons_zero]
    refine wpMix_q (v := .slice (some ⟨tb, 0, none⟩) 4 4) rfl rfl (fun _ _ _ h => h) HQ.out ⟨rfl, fun _ _ => by simp [go_sem]⟩ ?_
    simp only [List.getElem_toArray, List.getElem_cons_succ, List.getElem_cons_zero, Act.put, List.setIfInBounds_toArray, List.set_cons_succ, List.set_cons_zero]
    refine wpMix_q (v := .pointer (some ⟨tb, 18, none⟩)) rfl rfl (fun _ _ _ h => h) HQ.out ⟨rfl, fun _ _ => by simp [go_sem]⟩ ?_
    simp only [List.getElem_toArray, List.getElem_cons_succ, List.getElem_cons_zero, Act.put, List.setIfInBounds_toArray, List.set_cons_succ, List.set_cons_zero]
    refine wpMix_q (v := .agg #[.int .i64 0, .int .i64 0, .int .i64 0, .int .i64 0, .int .i64 0, .int .i64 1, .int .i64 0, .int .i64 1, .int .i64 0]) rfl rfl (fun _ _ _ h => h) HQ.out ⟨rfl, fun W h => by obtain ⟨_, _, ⟨a0, a1, a2, a3, a4, a5, a6, a7, a8⟩, _⟩ := HF.out W h; simp [go_sem, a0, a1, a2, a3, a4, a5, a6, a7, a8]⟩ ?_
    simp only [List.getElem_toArray, List.getElem_cons_succ, List.getElem_cons_zero, Act.put, List.setIfInBounds_toArray, List.set_cons_succ, List.set_cons_zero]
    refine wpMix_q (v := .slice (some ⟨tb, 0, none⟩) 4 4) rfl rfl (fun _ _ _ h => h) HQ.out ⟨rfl, fun _ _ => by simp [go_sem]⟩ ?_
    simp only [List.getElem_toArray, List.getElem_cons_succ, List.getElem_cons_zero, Act.put, List.setIfInBounds_toArray, List.set_cons_succ, List.set_cons_zero]
    refine wpMix_q (v := .pointer (some ⟨tb, 27, none⟩)) rfl rfl (fun _ _ _ h => h) HQ.out ⟨rfl, fun _ _ => by simp [go_sem]⟩ ?_
    simp only [List.getElem_toArray, List.getElem_cons_succ, List.getElem_cons_zero, Act.put, List.setIfInBounds_toArray, List.set_cons_succ, List.set_cons_zero]
    refine wpMix_q (v := .agg #[.int .i64 1, .int .i64 0, .int .i64 0, .int .i64 0, .int .i64 1, .int .i64 0, .int .i64 0, .int .i64 0, .int .i64 1]) rfl rfl (fun _ _ _ h => h) HQ.out ⟨rfl, fun W h => by obtain ⟨_, _, _, a0, a1, a2, a3, a4, a5, a6, a7, a8⟩ := HF.out W h; simp [go_sem, a0, a1, a2, a3, a4, a5, a6, a7, a8]⟩ ?_
    simp only [List.getElem_toArray, List.getElem_cons_succ, List.getElem_cons_zero, Act.put, List.setIfInBounds_toArray, List.set_cons_succ, List.set_cons_zero]
    refine wpMix_n rfl rfl ?_
    go_wp2_with fail
    have hBX2 : Below X.heap.size X (X.drew.alloc (.cells #[.int .i64 0, .int .i64 0, .int .i64 0, .int .i64 0, .int .i64 1, .int .i64 0, .int .i64 1, .int .i64 0, .int .i64 0, .int .i64 0, .int .i64 0, .int .i64 0, .int .i64 0, .int .i64 0, .int .i64 1, .int .i64 1, .int .i64 0, .int .i64 0, .int .i64 0, .int .i64 0, .int .i64 0, .int .i64 0, .int .i64 0, .int .i64 1, .int .i64 0, .int .i64 1, .int .i64 0, .int .i64 1, .int .i64 0, .int .i64 0, .int .i64 0, .int .i64 1, .int .i64 0, .int .i64 0, .int .i64 0, .int .i64 1] 58)) := ((Below.refl _ X).drew).alloc (by simp) _
    have hub : Blk (X.drew.alloc (.cells #[.int .i64 0, .int .i64 0, .int .i64 0, .int .i64 0, .int .i64 1, .int .i64 0, .int .i64 1, .int .i64 0, .int .i64 0, .int .i64 0, .int .i64 0, .int .i64 0, .int .i64 0, .int .i64 0, .int .i64 1, .int .i64 1, .int .i64 0, .int .i64 0, .int .i64 0, .int .i64 0, .int .i64 0, .int .i64 0, .int .i64 0, .int .i64 1, .int .i64 0, .int .i64 1, .int .i64 0, .int .i64 1, .int .i64 0, .int .i64 0, .int .i64 0, .int .i64 1, .int .i64 0, .int .i64 0, .int .i64 0, .int .i64 1] 58)) X.heap.size 58 (turP.flatMap encT).toArray := Blk.new' _ _ _ _ (by simp)
    have HY := hide (And.intro hBX2 hub)
    clear hBX2 hub
    refine ⟨fun _ => ⟨HX.out.1.below HY.out.1 HX.out.1.lt, HX.out.2.1.below HY.out.1 HX.out.2.1.lt, HX.out.2.2.2.1.below HY.out.1 HX.out.2.2.2.1.lt, HX.out.2.2.2.2.1.below HY.out.1 HX.out.2.2.2.2.1.lt⟩, ?_⟩
    refine wpMix_tail _ [_] (by kernel_rfl) rfl ?_
    simp only [List.getElem_toArray, List.getElem_cons_succ, List.getElem_cons_zero]
    go_wp2_with fail
    go_meet
    case rel => exact ⟨X.heap.size, rfl, ⟨HX.out.1.below HY.out.1 HX.out.1.lt, HX.out.2.1.below HY.out.1 HX.out.2.1.lt, HX.out.2.2.1.below HY.out.1 HX.out.2.2.1.lt, HX.out.2.2.2.1.below HY.out.1 HX.out.2.2.2.1.lt, HX.out.2.2.2.2.1.below HY.out.1 HX.out.2.2.2.2.1.lt, HY.out.2, HX.out.2.2.2.2.2.trans (HY.out.1.mono HX.out.2.2.2.2.2.size)⟩⟩
  case rest =>
    obtain ⟨ub, rfl, hS⟩ := hcut
    obtain ⟨Y, rfl⟩ : ∃ x, x = wc := ⟨_, rfl⟩
    have HS := hide hS
    clear hS HQ HF
    have hsl0 : Sl encT 9 (Y.alloc (.cells #[] 58)) (Y.heap.size + 1) (some ⟨tb, 0, none⟩) tetP := Sl.of_blk encT_len (HS.out.t.alloc _) (by have := HS.out.t.lt; omega)
    have ho0 : Own encT 9 58 (Y.alloc (.cells #[] 58)) Y.heap.size (.slice (some ⟨Y.heap.size, 0, none⟩) 0 0) 0 ([] : List Tri) := ⟨rfl, by simpa using World.ownsRow_lit (e := 58) (size := 9) Y #[] 0 (Nat.le_refl _) (by unfold maxLen; omega) (by simp)⟩
    have H0 := hide (And.intro hsl0 ho0)
    clear hsl0 ho0
    go_wp2_with (at_builtin; refine wpList_appendS rfl _ _ _ rfl Tryz.underlying28 infoT rfl (by omega) encT_len encT_one rfl H0.out.2 (some ⟨tb, 0, none⟩) 4 (Y.heap.size + 1) tetP rfl H0.out.1 (by unfold maxLen; simp [tetP]) (by simp [tetP]) (by simp) ?_; intro v3 w3 hown3 hg3 hB3 hat3; have H3 := hide (And.intro hown3 (((Below.refl _ Y).alloc (Nat.le_refl _) _).trans hB3)); clear hown3 hg3 hB3 hat3)
    go_loopw [7, 51] (fun tv jv wr => ∃ j : Nat, j ≤ 4 ∧ jv = .int .i64 j ∧ Own encT 9 58 wr Y.heap.size tv (4 + j) (tetP ++ (tetP.map negT4).take j) ∧ Below Y.heap.size Y wr) (fun _ jv _ => 4 - (intOf jv).toNat)
    case atStart => exact ⟨0, by omega, rfl, by simpa [tetP] using H3.out.1, H3.out.2⟩
    case round =>
      obtain ⟨j, hj, rfl, hown, hB⟩ := hrel
      obtain ⟨V, rfl⟩ : ∃ x, x = wr := ⟨_, rfl⟩
      by_cases hj4 : j < 4
      · have i1 : (j : Int) < 4 := by omega
        obtain ⟨t, ht⟩ : ∃ t, tetP[j]? = some t := ⟨_, List.getElem?_eq_getElem (by simpa [tetP] using hj4)⟩
        have hSV := HS.out.on hB
        have hsm := tet_small t (List.mem_of_getElem? ht)
        have hnx : (tetP.map negT4).take (j + 1) = (tetP.map negT4).take j ++ [negT4 t] := by rw [List.take_add_one, List.getElem?_map, ht]; rfl
        obtain ⟨b, o, hA, hbb, g0, g1, g2, g3, g4, g5, g6, g7, g8⟩ := (show Sl encT 9 V V.heap.size (some ⟨tb, 0, none⟩) tetP from Sl.of_blk encT_len hSV.t hSV.t.lt).tri ht
        cases hA
        simp only [Nat.zero_add] at g0 g1 g2 g3 g4 g5 g6 g7 g8
        obtain ⟨A7, c7, rfl⟩ := hown.form
        obtain ⟨⟨x1, y1, z1⟩, ⟨x2, y2, z2⟩, ⟨x3, y3, z3⟩⟩ := t
        dsimp only at g0 g1 g2 g3 g4 g5 g6 g7 g8 hsm
        obtain ⟨⟨hx1, hy1, hz1⟩, ⟨hx2, hy2, hz2⟩, ⟨hx3, hy3, hz3⟩⟩ := hsm
        have HV := hide (And.intro hown (And.intro hB hnx))
        clear hown hB hnx hSV ht hbb
        go_wp2_with fail
        obtain ⟨sb, hsb⟩ : ∃ b, b = V.heap.size := ⟨_, rfl⟩
        obtain ⟨Z, hZ⟩ : ∃ W, W = V.alloc (.cells #[.int .i64 x1, .int .i64 y1, .int .i64 z1, .int .i64 x2, .int .i64 y2, .int .i64 z2, .int .i64 x3, .int .i64 y3, .int .i64 z3] 58) := ⟨_, rfl⟩
        rw [← hZ, ← hsb]
        have hbZ : Blk Z sb 58 (encT (negK ((x1, y1, z1), (x2, y2, z2), (x3, y3, z3)) 0)).toArray := by rw [hZ, hsb]; exact Blk.new _ _ _
        have hoZ := HV.out.1.alloc (.cells #[.int .i64 x1, .int .i64 y1, .int .i64 z1, .int .i64 x2, .int .i64 y2, .int .i64 z2, .int .i64 x3, .int .i64 y3, .int .i64 z3] 58)
        have hBZ : Below Y.heap.size Y Z := by rw [hZ]; exact HV.out.2.1.alloc HV.out.2.1.size _
        have hnb : ∀ v : Value, Own encT 9 58 V Y.heap.size v (4 + j) (tetP ++ (tetP.map negT4).take j) → v.ownBlock ≠ some sb := fun v hv e => by have := (hv.blk sb e).2; omega
        have hns := hnb _ HV.out.1
        have hsY : Y.heap.size ≤ sb := by rw [hsb]; exact HV.out.2.1.size
        rw [← hZ] at hoZ
        have HZ := hide (And.intro hbZ (And.intro hoZ (And.intro hBZ (And.intro hns hsY))))
        clear hbZ hoZ hBZ hnb hns hsY hsb hZ g0 g1 g2 g3 g4 g5 g6 g7 g8
        go_loopw [55] (fun kv wr => ∃ k : Nat, k ≤ 3 ∧ kv = .int .i64 k ∧ Blk wr sb 58 (encT (negK ((x1, y1, z1), (x2, y2, z2), (x3, y3, z3)) k)).toArray ∧ Own encT 9 58 wr Y.heap.size (.slice A7 (4 + j) c7) (4 + j) (tetP ++ (tetP.map negT4).take j) ∧ Below Y.heap.size Y wr) (fun kv _ => 3 - (intOf kv).toNat)
        case atStart => exact ⟨0, by omega, rfl, HZ.out.1, HZ.out.2.1, HZ.out.2.2.1⟩
        case round =>
          obtain ⟨k, hk, rfl, hbk, hok, hBk⟩ := hrel
          obtain ⟨R, rfl⟩ : ∃ x, x = wr := ⟨_, rfl⟩
          by_cases hk0 : k = 0
          · subst hk0
            have i2 : ((0 : Nat) : Int) < 3 := by omega
            have w0 : IntKind.i64.wrap (-x1) = -x1 := by rw [IntKind.wrap_i64]; omega
            have w1 : IntKind.i64.wrap (-y1) = -y1 := by rw [IntKind.wrap_i64]; omega
            have w2 : IntKind.i64.wrap (-z1) = -z1 := by rw [IntKind.wrap_i64]; omega
            have hbk : Blk R sb 58 #[.int .i64 x1, .int .i64 y1, .int .i64 z1, .int .i64 x2, .int .i64 y2, .int .i64 z2, .int .i64 x3, .int .i64 y3, .int .i64 z3] := hbk
            have f0 := hbk.frozen 0
            have f1 := hbk.frozen 1
            have f2 := hbk.frozen 2
            have r0 : R.cell? ⟨sb, 0, none⟩ = some (.int .i64 x1) := hbk.cell 0
            have r1 : R.cell? ⟨sb, 1, none⟩ = some (.int .i64 y1) := hbk.cell 1
            have r2 : R.cell? ⟨sb, 2, none⟩ = some (.int .i64 z1) := hbk.cell 2
            have hlt := hbk.lt
            have HR := hide (And.intro hbk (And.intro hok hBk))
            clear hbk hok hBk
            go_upto_region 11 with fail
            have HQ := hide (show (fun W : World => W.cell? ⟨sb, 0, none⟩ = some (.int .i64 x1) ∧ W.cell? ⟨sb, 1, none⟩ = some (.int .i64 y1) ∧ W.cell? ⟨sb, 2, none⟩ = some (.int .i64 z1)) R.drew from ⟨r0, r1, r2⟩)
            refine wp_region_mix (fun W => W.cell? ⟨sb, 0, none⟩ = some (.int .i64 x1) ∧ W.cell? ⟨sb, 1, none⟩ = some (.int .i64 y1) ∧ W.cell? ⟨sb, 2, none⟩ = some (.int .i64 z1)) [0, 1, 2, 3, 4, 5, 6, 7, 8, 9, 10, 11, 12, 13, 14, 15, 16, 17] [0, 1, 2, 3, 4, 5, 6, 7, 8, 9, 10, 11, 12, 13, 14, 15, 16, 17, 18] mixed_ok (by kernel_rfl) ?_
            refine wpMix_q (v := .int .i64 0) rfl rfl (fun _ _ _ h => h) HQ.out ⟨rfl, fun _ h => by simp [go_sem]⟩ ?_
            simp only [List.getElem_toArray, List.getElem_cons_zero, Act.put, List.setIfInBounds_toArray, List.set_cons_succ, List.set_cons_zero]
            refine wpMix_q (v := .int .i64 0) rfl rfl (fun _ _ _ h => h) HQ.out ⟨rfl, fun _ h => by simp [go_sem]⟩ ?_
            simp only [List.getElem_toArray, List.getElem_cons_succ, List.getElem_cons_zero, Act.put, List.setIfInBounds_toArray, List.set_cons_succ, List.set_cons_zero]
            refine wpMix_q (v := .pointer (some ⟨sb, 0, none⟩)) rfl rfl (fun _ _ _ h => h) HQ.out ⟨rfl, fun _ h => by simp [go_sem]⟩ ?_
            simp only [List.getElem_toArray, List.getElem_cons_succ, List.getElem_cons_zero, Act.put, List.setIfInBounds_toArray, List.set_cons_succ, List.set_cons_zero]
            refine wpMix_q (v := .pointer (some ⟨sb, 0, none⟩)) rfl rfl (fun _ _ _ h => h) HQ.out ⟨rfl, fun _ h => by simp [go_sem]⟩ ?_
            simp only [List.getElem_toArray, List.getElem_cons_succ, List.getElem_cons_zero, Act.put, List.setIfInBounds_toArray, List.set_cons_succ, List.set_cons_zero]
            refine wpMix_q (v := .int .i64 x1) rfl rfl (fun _ _ _ h => h) HQ.out ⟨rfl, fun _ h => by simp [go_sem, h]⟩ ?_
            simp only [List.getElem_toArray, List.getElem_cons_succ, List.getElem_cons_zero, Act.put, List.setIfInBounds_toArray, List.set_cons_succ, List.set_cons_zero]
            refine wpMix_q (v := .int .i64 (-x1)) rfl rfl (fun _ _ _ h => h) HQ.out ⟨rfl, fun _ h => by simp [go_sem, w0]⟩ ?_
            simp only [List.getElem_toArray, List.getElem_cons_succ, List.getElem_cons_zero, Act.put, List.setIfInBounds_toArray, List.set_cons_succ, List.set_cons_zero]
            refine wpMix_q (v := .int .i64 0) rfl rfl (fun _ _ _ h => h) HQ.out ⟨rfl, fun _ h => by simp [go_sem]⟩ ?_
            simp only [List.getElem_toArray, List.getElem_cons_succ, List.getElem_cons_zero, Act.put, List.setIfInBounds_toArray, List.set_cons_succ, List.set_cons_zero]
            refine wpMix_q (v := .pointer (some ⟨sb, 0, none⟩)) rfl rfl (fun _ _ _ h => h) HQ.out ⟨rfl, fun _ h => by simp [go_sem]⟩ ?_
            simp only [List.getElem_toArray, List.getElem_cons_succ, List.getElem_cons_zero, Act.put, List.setIfInBounds_toArray, List.set_cons_succ, List.set_cons_zero]
            refine wpMix_q (v := .pointer (some ⟨sb, 1, none⟩)) rfl rfl (fun _ _ _ h => h) HQ.out ⟨rfl, fun _ h => by simp [go_sem]⟩ ?_
            simp only [List.getElem_toArray, List.getElem_cons_succ, List.getElem_cons_zero, Act.put, List.setIfInBounds_toArray, List.set_cons_succ, List.set_cons_zero]
            refine wpMix_q (v := .int .i64 y1) rfl rfl (fun _ _ _ h => h) HQ.out ⟨rfl, fun _ h => by simp [go_sem, h]⟩ ?_
            simp only [List.getElem_toArray, List.getElem_cons_succ, List.getElem_cons_zero, Act.put, List.setIfInBounds_toArray, List.set_cons_succ, List.set_cons_zero]
            refine wpMix_q (v := .int .i64 (-y1)) rfl rfl (fun _ _ _ h => h) HQ.out ⟨rfl, fun _ h => by simp [go_sem, w1]⟩ ?_
            simp only [List.getElem_toArray, List.getElem_cons_succ, List.getElem_cons_zero, Act.put, List.setIfInBounds_toArray, List.set_cons_succ, List.set_cons_zero]
            refine wpMix_q (v := .int .i64 0) rfl rfl (fun _ _ _ h => h) HQ.out ⟨rfl, fun _ h => by simp [go_sem]⟩ ?_
            simp only [List.getElem_toArray, List.getElem_cons_succ, List.getElem_cons_zero, Act.put, List.setIfInBounds_toArray, List.set_cons_succ, List.set_cons_zero]
            refine wpMix_q (v := .pointer (some ⟨sb, 0, none⟩)) rfl rfl (fun _ _ _ h => h) HQ.out ⟨rfl, fun _ h => by simp [go_sem]⟩ ?_
            simp only [List.getElem_toArray, List.getElem_cons_succ, List.getElem_cons_zero, Act.put, List.setIfInBounds_toArray, List.set_cons_succ, List.set_cons_zero]
            refine wpMix_q (v := .pointer (some ⟨sb, 2, none⟩)) rfl rfl (fun _ _ _ h => h) HQ.out ⟨rfl, fun _ h => by simp [go_sem]⟩ ?_
            simp only [List.getElem_toArray, List.getElem_cons_succ, List.getElem_cons_zero, Act.put, List.setIfInBounds_toArray, List.set_cons_succ, List.set_cons_zero]
            refine wpMix_q (v := .int .i64 z1) rfl rfl (fun _ _ _ h => h) HQ.out ⟨rfl, fun _ h => by simp [go_sem, h]⟩ ?_
            simp only [List.getElem_toArray, List.getElem_cons_succ, List.getElem_cons_zero, Act.put, List.setIfInBounds_toArray, List.set_cons_succ, List.set_cons_zero]
            refine wpMix_q (v := .int .i64 (-z1)) rfl rfl (fun _ _ _ h => h) HQ.out ⟨rfl, fun _ h => by simp [go_sem, w2]⟩ ?_
            simp only [List.getElem_toArray, List.getElem_cons_succ, List.getElem_cons_zero, Act.put, List.setIfInBounds_toArray, List.set_cons_succ, List.set_cons_zero]
            refine wpMix_q (v := .agg #[.int .i64 (-x1), .int .i64 (-y1), .int .i64 (-z1)]) rfl rfl (fun _ _ _ h => h) HQ.out ⟨rfl, fun _ h => by simp [go_sem]⟩ ?_
            simp only [List.getElem_toArray, List.getElem_cons_succ, List.getElem_cons_zero, Act.put, List.setIfInBounds_toArray, List.set_cons_succ, List.set_cons_zero]
            refine wpMix_q (v := .pointer (some ⟨sb, 0, none⟩)) rfl rfl (fun _ _ _ h => h) HQ.out ⟨rfl, fun _ h => by simp [go_sem]⟩ ?_
            simp only [List.getElem_toArray, List.getElem_cons_succ, List.getElem_cons_zero, Act.put, List.setIfInBounds_toArray, List.set_cons_succ, List.set_cons_zero]
            refine wpMix_tail _ [_] (by kernel_rfl) rfl ?_
            simp only [List.getElem_toArray, List.getElem_cons_succ, List.getElem_cons_zero]
            go_wp2
            go_roundw
            case rel =>
              refine ⟨1, by omega, by go_num, ?_, HR.out.2.1.set3 HZ.out.2.2.2.1 0 1 2 _ _ _, (((HR.out.2.2.setCell (p := ⟨sb, 0, none⟩) HZ.out.2.2.2.2 _).setCell (p := ⟨sb, 1, none⟩) HZ.out.2.2.2.2 _).setCell (p := ⟨sb, 2, none⟩) HZ.out.2.2.2.2 _).drew⟩
              exact ((HR.out.1.set_ 0 (.int .i64 (-x1))).set_ 1 (.int .i64 (-y1))).set_ 2 (.int .i64 (-z1))
            case measure => (simp [intOf]; try omega)
          by_cases hk1 : k = 1
          · subst hk1
            have i2 : ((1 : Nat) : Int) < 3 := by omega
            have w0 : IntKind.i64.wrap (-x2) = -x2 := by rw [IntKind.wrap_i64]; omega
            have w1 : IntKind.i64.wrap (-y2) = -y2 := by rw [IntKind.wrap_i64]; omega
            have w2 : IntKind.i64.wrap (-z2) = -z2 := by rw [IntKind.wrap_i64]; omega
            have hbk : Blk R sb 58 #[.int .i64 (-x1), .int .i64 (-y1), .int .i64 (-z1), .int .i64 x2, .int .i64 y2, .int .i64 z2, .int .i64 x3, .int .i64 y3, .int .i64 z3] := hbk
            have f0 := hbk.frozen 3
            have f1 := hbk.frozen 4
            have f2 := hbk.frozen 5
            have r0 : R.cell? ⟨sb, 3, none⟩ = some (.int .i64 x2) := hbk.cell 3
            have r1 : R.cell? ⟨sb, 4, none⟩ = some (.int .i64 y2) := hbk.cell 4
            have r2 : R.cell? ⟨sb, 5, none⟩ = some (.int .i64 z2) := hbk.cell 5
            have hlt := hbk.lt
            have HR := hide (And.intro hbk (And.intro hok hBk))
            clear hbk hok hBk
            go_upto_region 11 with fail
            have HQ := hide (show (fun W : World => W.cell? ⟨sb, 3, none⟩ = some (.int .i64 x2) ∧ W.cell? ⟨sb, 4, none⟩ = some (.int .i64 y2) ∧ W.cell? ⟨sb, 5, none⟩ = some (.int .i64 z2)) R.drew from ⟨r0, r1, r2⟩)
            refine wp_region_mix (fun W => W.cell? ⟨sb, 3, none⟩ = some (.int .i64 x2) ∧ W.cell? ⟨sb, 4, none⟩ = some (.int .i64 y2) ∧ W.cell? ⟨sb, 5, none⟩ = some (.int .i64 z2)) [0, 1, 2, 3, 4, 5, 6, 7, 8, 9, 10, 11, 12, 13, 14, 15, 16, 17] [0, 1, 2, 3, 4, 5, 6, 7, 8, 9, 10, 11, 12, 13, 14, 15, 16, 17, 18] mixed_ok (by kernel_rfl) ?_
            refine wpMix_q (v := .int .i64 1) rfl rfl (fun _ _ _ h => h) HQ.out ⟨rfl, fun _ h => by simp [go_sem]⟩ ?_
            simp only [List.getElem_toArray, List.getElem_cons_zero, Act.put, List.setIfInBounds_toArray, List.set_cons_succ, List.set_cons_zero]
            refine wpMix_q (v := .int .i64 1) rfl rfl (fun _ _ _ h => h) HQ.out ⟨rfl, fun _ h => by simp [go_sem]⟩ ?_
            simp only [List.getElem_toArray, List.getElem_cons_succ, List.getElem_cons_zero, Act.put, List.setIfInBounds_toArray, List.set_cons_succ, List.set_cons_zero]
            refine wpMix_q (v := .pointer (some ⟨sb, 3, none⟩)) rfl rfl (fun _ _ _ h => h) HQ.out ⟨rfl, fun _ h => by simp [go_sem]⟩ ?_
            simp only [List.getElem_toArray, List.getElem_cons_succ, List.getElem_cons_zero, Act.put, List.setIfInBounds_toArray, List.set_cons_succ, List.set_cons_zero]
            refine wpMix_q (v := .pointer (some ⟨sb, 3, none⟩)) rfl rfl (fun _ _ _ h => h) HQ.out ⟨rfl, fun _ h => by simp [go_sem]⟩ ?_
            simp only [List.getElem_toArray, List.getElem_cons_succ, List.getElem_cons_zero, Act.put, List.setIfInBounds_toArray, List.set_cons_succ, List.set_cons_zero]
            refine wpMix_q (v := .int .i64 x2) rfl rfl (fun _ _ _ h => h) HQ.out ⟨rfl, fun _ h => by simp [go_sem, h]⟩ ?_
            simp only [List.getElem_toArray, List.getElem_cons_succ, List.getElem_cons_zero, Act.put, List.setIfInBounds_toArray, List.set_cons_succ, List.set_cons_zero]
            refine wpMix_q (v := .int .i64 (-x2)) rfl rfl (fun _ _ _ h => h) HQ.out ⟨rfl, fun _ h => by simp [go_sem, w0]⟩ ?_
            simp only [List.getElem_toArray, List.getElem_cons_succ, List.getElem_cons_zero, Act.put, List.setIfInBounds_toArray, List.set_cons_succ, List.set_cons_zero]
            refine wpMix_q (v := .int .i64 1) rfl rfl (fun _ _ _ h => h) HQ.out ⟨rfl, fun _ h => by simp [go_sem]⟩ ?_
            simp only [List.getElem_toArray, List.getElem_cons_succ, List.getElem_cons_zero, Act.put, List.setIfInBounds_toArray, List.set_cons_succ, List.set_cons_zero]
            refine wpMix_q (v := .pointer (some ⟨sb, 3, none⟩)) rfl rfl (fun _ _ _ h => h) HQ.out ⟨rfl, fun _ h => by simp [go_sem]⟩ ?_
            simp only [List.getElem_toArray, List.getElem_cons_succ, List.getElem_cons_zero, Act.put, List.setIfInBounds_toArray, List.set_cons_succ, List.set_cons_zero]
            refine wpMix_q (v := .pointer (some ⟨sb, 4, none⟩)) rfl rfl (fun _ _ _ h => h) HQ.out ⟨rfl, fun _ h => by simp [go_sem]⟩ ?_
            simp only [List.getElem_toArray, List.getElem_cons_succ, List.getElem_cons_zero, Act.put, List.setIfInBounds_toArray, List.set_cons_succ, List.set_cons_zero]
            refine wpMix_q (v := .int .i64 y2) rfl rfl (fun _ _ _ h => h) HQ.out ⟨rfl, fun _ h => by simp [go_sem, h]⟩ ?_
            simp only [List.getElem_toArray, List.getElem_cons_succ, List.getElem_cons_zero, Act.put, List.setIfInBounds_toArray, List.set_cons_succ, List.set_cons_zero]
            refine wpMix_q (v := .int .i64 (-y2)) rfl rfl (fun _ _ _ h => h) HQ.out ⟨rfl, fun _ h => by simp [go_sem, w1]⟩ ?_
            simp only [List.getElem_toArray, List.getElem_cons_succ, List.getElem_cons_zero, Act.put, List.setIfInBounds_toArray, List.set_cons_succ, List.set_cons_zero]
            refine wpMix_q (v := .int .i64 1) rfl rfl (fun _ _ _ h => h) HQ.out ⟨rfl, fun _ h => by simp [go_sem]⟩ ?_
            simp only [List.getElem_toArray, List.getElem_cons_succ, List.getElem_cons_zero, Act.put, List.setIfInBounds_toArray, List.set_cons_succ, List.set_cons_zero]
            refine wpMix_q (v := .pointer (some ⟨sb, 3, none⟩)) rfl rfl (fun _ _ _ h => h) HQ.out ⟨rfl, fun _ h => by simp [go_sem]⟩ ?_
            simp only [List.getElem_toArray, List.getElem_cons_succ, List.getElem_cons_zero, Act.put, List.setIfInBounds_toArray, List.set_cons_succ, List.set_cons_zero]
            refine wpMix_q (v := .pointer (some ⟨sb, 5, none⟩)) rfl rfl (fun _ _ _ h => h) HQ.out ⟨rfl, fun _ h => by simp [go_sem]⟩ ?_
            simp only [List.getElem_toArray, List.getElem_cons_succ, List.getElem_cons_zero, Act.put, List.setIfInBounds_toArray, List.set_cons_succ, List.set_cons_zero]
            refine wpMix_q (v := .int .i64 z2) rfl rfl (fun _ _ _ h => h) HQ.out ⟨rfl, fun _ h => by simp [go_sem, h]⟩ ?_
            simp only [List.getElem_toArray, List.getElem_cons_succ, List.getElem_cons_zero, Act.put, List.setIfInBounds_toArray, List.set_cons_succ, List.set_cons_zero]
            refine wpMix_q (v := .int .i64 (-z2)) rfl rfl (fun _ _ _ h => h) HQ.out ⟨rfl, fun _ h => by simp [go_sem, w2]⟩ ?_
            simp only [List.getElem_toArray, List.getElem_cons_succ, List.getElem_cons_zero, Act.put, List.setIfInBounds_toArray, List.set_cons_succ, List.set_cons_zero]
            refine wpMix_q (v := .agg #[.int .i64 (-x2), .int .i64 (-y2), .int .i64 (-z2)]) rfl rfl (fun _ _ _ h => h) HQ.out ⟨rfl, fun _ h => by simp [go_sem]⟩ ?_
            simp only [List.getElem_toArray, List.getElem_cons_succ, List.getElem_cons_zero, Act.put, List.setIfInBounds_toArray, List.set_cons_succ, List.set_cons_zero]
            refine wpMix_q (v := .pointer (some ⟨sb, 3, none⟩)) rfl rfl (fun _ _ _ h => h) HQ.out ⟨rfl, fun _ h => by simp [go_sem]⟩ ?_
            simp only [List.getElem_toArray, List.getElem_cons_succ, List.getElem_cons_zero, Act.put, List.setIfInBounds_toArray, List.set_cons_succ, List.set_cons_zero]
            refine wpMix_tail _ [_] (by kernel_rfl) rfl ?_
            simp only [List.getElem_toArray, List.getElem_cons_succ, List.getElem_cons_zero]
            go_wp2
            go_roundw
            case rel =>
              refine ⟨2, by omega, by go_num, ?_, HR.out.2.1.set3 HZ.out.2.2.2.1 3 4 5 _ _ _, (((HR.out.2.2.setCell (p := ⟨sb, 3, none⟩) HZ.out.2.2.2.2 _).setCell (p := ⟨sb, 4, none⟩) HZ.out.2.2.2.2 _).setCell (p := ⟨sb, 5, none⟩) HZ.out.2.2.2.2 _).drew⟩
              exact ((HR.out.1.set_ 3 (.int .i64 (-x2))).set_ 4 (.int .i64 (-y2))).set_ 5 (.int .i64 (-z2))
            case measure => (simp [intOf]; try omega)
          by_cases hk2 : k = 2
          · subst hk2
            have i2 : ((2 : Nat) : Int) < 3 := by omega
            have w0 : IntKind.i64.wrap (-x3) = -x3 := by rw [IntKind.wrap_i64]; omega
            have w1 : IntKind.i64.wrap (-y3) = -y3 := by rw [IntKind.wrap_i64]; omega
            have w2 : IntKind.i64.wrap (-z3) = -z3 := by rw [IntKind.wrap_i64]; omega
            have hbk : Blk R sb 58 #[.int .i64 (-x1), .int .i64 (-y1), .int .i64 (-z1), .int .i64 (-x2), .int .i64 (-y2), .int .i64 (-z2), .int .i64 x3, .int .i64 y3, .int .i64 z3] := hbk
            have f0 := hbk.frozen 6
            have f1 := hbk.frozen 7
            have f2 := hbk.frozen 8
            have r0 : R.cell? ⟨sb, 6, none⟩ = some (.int .i64 x3) := hbk.cell 6
            have r1 : R.cell? ⟨sb, 7, none⟩ = some (.int .i64 y3) := hbk.cell 7
            have r2 : R.cell? ⟨sb, 8, none⟩ = some (.int .i64 z3) := hbk.cell 8
            have hlt := hbk.lt
            have HR := hide (And.intro hbk (And.intro hok hBk))
            clear hbk hok hBk
            go_upto_region 11 with fail
            have HQ := hide (show (fun W : World => W.cell? ⟨sb, 6, none⟩ = some (.int .i64 x3) ∧ W.cell? ⟨sb, 7, none⟩ = some (.int .i64 y3) ∧ W.cell? ⟨sb, 8, none⟩ = some (.int .i64 z3)) R.drew from ⟨r0, r1, r2⟩)
            refine wp_region_mix (fun W => W.cell? ⟨sb, 6, none⟩ = some (.int .i64 x3) ∧ W.cell? ⟨sb, 7, none⟩ = some (.int .i64 y3) ∧ W.cell? ⟨sb, 8, none⟩ = some (.int .i64 z3)) [0, 1, 2, 3, 4, 5, 6, 7, 8, 9, 10, 11, 12, 13, 14, 15, 16, 17] [0, 1, 2, 3, 4, 5, 6, 7, 8, 9, 10, 11, 12, 13, 14, 15, 16, 17, 18] mixed_ok (by kernel_rfl) ?_
            refine wpMix_q (v := .int .i64 2) rfl rfl (fun _ _ _ h => h) HQ.out ⟨rfl, fun _ h => by simp [go_sem]⟩ ?_
            simp only [List.getElem_toArray, List.getElem_cons_zero, Act.put, List.setIfInBounds_toArray, List.set_cons_succ, List.set_cons_zero]
            refine wpMix_q (v := .int .i64 2) rfl rfl (fun _ _ _ h => h) HQ.out ⟨rfl, fun _ h => by simp [go_sem]⟩ ?_
            simp only [List.getElem_toArray, List.getElem_cons_succ, List.getElem_cons_zero, Act.put, List.setIfInBounds_toArray, List.set_cons_succ, List.set_cons_zero]
            refine wpMix_q (v := .pointer (some ⟨sb, 6, none⟩)) rfl rfl (fun _ _ _ h => h) HQ.out ⟨rfl, fun _ h => by simp [go_sem]⟩ ?_
            simp only [List.getElem_toArray, List.getElem_cons_succ, List.getElem_cons_zero, Act.put, List.setIfInBounds_toArray, List.set_cons_succ, List.set_cons_zero]
            refine wpMix_q (v := .pointer (some ⟨sb, 6, none⟩)) rfl rfl (fun _ _ _ h => h) HQ.out ⟨rfl, fun _ h => by simp [go_sem]⟩ ?_
            simp only [List.getElem_toArray, List.getElem_cons_succ, List.getElem_cons_zero, Act.put, List.setIfInBounds_toArray, List.set_cons_succ, List.set_cons_zero]
            refine wpMix_q (v := .int .i64 x3) rfl rfl (fun _ _ _ h => h) HQ.out ⟨rfl, fun _ h => by simp [go_sem, h]⟩ ?_
            simp only [List.getElem_toArray, List.getElem_cons_succ, List.getElem_cons_zero, Act.put, List.setIfInBounds_toArray, List.set_cons_succ, List.set_cons_zero]
            refine wpMix_q (v := .int .i64 (-x3)) rfl rfl (fun _ _ _ h => h) HQ.out ⟨rfl, fun _ h => by simp [go_sem, w0]⟩ ?_
            simp only [List.getElem_toArray, List.getElem_cons_succ, List.getElem_cons_zero, Act.put, List.setIfInBounds_toArray, List.set_cons_succ, List.set_cons_zero]
            refine wpMix_q (v := .int .i64 2) rfl rfl (fun _ _ _ h => h) HQ.out ⟨rfl, fun _ h => by simp [go_sem]⟩ ?_
            simp only [List.getElem_toArray, List.getElem_cons_succ, List.getElem_cons_zero, Act.put, List.setIfInBounds_toArray, List.set_cons_succ, List.set_cons_zero]
            refine wpMix_q (v := .pointer (some ⟨sb, 6, none⟩)) rfl rfl (fun _ _ _ h => h) HQ.out ⟨rfl, fun _ h => by simp [go_sem]⟩ ?_
            simp only [List.getElem_toArray, List.getElem_cons_succ, List.getElem_cons_zero, Act.put, List.setIfInBounds_toArray, List.set_cons_succ, List.set_cons_zero]
            refine wpMix_q (v := .pointer (some ⟨sb, 7, none⟩)) rfl rfl (fun _ _ _ h => h) HQ.out ⟨rfl, fun _ h => by simp [go_sem]⟩ ?_
            simp only [List.getElem_toArray, List.getElem_cons_succ, List.getElem_cons_zero, Act.put, List.setIfInBounds_toArray, List.set_cons_succ, List.set_cons_zero]
            refine wpMix_q (v := .int .i64 y3) rfl rfl (fun _ _ _ h => h) HQ.out ⟨rfl, fun _ h => by simp [go_sem, h]⟩ ?_
            simp only [List.getElem_toArray, List.getElem_cons_succ, List.getElem_cons_zero, Act.put, List.setIfInBounds_toArray, List.set_cons_succ, List.set_cons_zero]
            refine wpMix_q (v := .int .i64 (-y3)) rfl rfl (fun _ _ _ h => h) HQ.out ⟨rfl, fun _ h => by simp [go_sem, w1]⟩ ?_
            simp only [List.getElem_toArray, List.getElem_cons_succ, List.getElem_cons_zero, Act.put, List.setIfInBounds_toArray, List.set_cons_succ, List.set_cons_zero]
            refine wpMix_q (v := .int .i64 2) rfl rfl (fun _ _ _ h => h) HQ.out ⟨rfl, fun _ h => by simp [go_sem]⟩ ?_
            simp only [List.getElem_toArray, List.getElem_cons_succ, List.getElem_cons_zero, Act.put, List.setIfInBounds_toArray, List.set_cons_succ, List.set_cons_zero]
            refine wpMix_q (v := .pointer (some ⟨sb, 6, none⟩)) rfl rfl (fun _ _ _ h => h) HQ.out ⟨rfl, fun _ h => by simp [go_sem]⟩ ?_
            simp only [List.getElem_toArray, List.getElem_cons_succ, List.getElem_cons_zero, Act.put, List.setIfInBounds_toArray, List.set_cons_succ, List.set_cons_zero]
            refine wpMix_q (v := .pointer (some ⟨sb, 8, none⟩)) rfl rfl (fun _ _ _ h => h) HQ.out ⟨rfl, fun _ h => by simp [go_sem]⟩ ?_
            simp only [List.getElem_toArray, List.getElem_cons_succ, List.getElem_cons_zero, Act.put, List.setIfInBounds_toArray, List.set_cons_succ, List.set_cons_zero]
            refine wpMix_q (v := .int .i64 z3) rfl rfl (fun _ _ _ h => h) HQ.out ⟨rfl, fun _ h => by simp [go_sem, h]⟩ ?_
            simp only [List.getElem_toArray, List.getElem_cons_succ, List.getElem_cons_zero, Act.put, List.setIfInBounds_toArray, List.set_cons_succ, List.set_cons_zero]
            refine wpMix_q (v := .int .i64 (-z3)) rfl rfl (fun _ _ _ h => h) HQ.out ⟨rfl, fun _ h => by simp [go_sem, w2]⟩ ?_
            simp only [List.getElem_toArray, List.getElem_cons_succ, List.getElem_cons_zero, Act.put, List.setIfInBounds_toArray, List.set_cons_succ, List.set_cons_zero]
            refine wpMix_q (v := .agg #[.int .i64 (-x3), .int .i64 (-y3), .int .i64 (-z3)]) rfl rfl (fun _ _ _ h => h) HQ.out ⟨rfl, fun _ h => by simp [go_sem]⟩ ?_
            simp only [List.getElem_toArray, List.getElem_cons_succ, List.getElem_cons_zero, Act.put, List.setIfInBounds_toArray, List.set_cons_succ, List.set_cons_zero]
            refine wpMix_q (v := .pointer (some ⟨sb, 6, none⟩)) rfl rfl (fun _ _ _ h => h) HQ.out ⟨rfl, fun _ h => by simp [go_sem]⟩ ?_
            simp only [List.getElem_toArray, List.getElem_cons_succ, List.getElem_cons_zero, Act.put, List.setIfInBounds_toArray, List.set_cons_succ, List.set_cons_zero]
            refine wpMix_tail _ [_] (by kernel_rfl) rfl ?_
            simp only [List.getElem_toArray, List.getElem_cons_succ, List.getElem_cons_zero]
            go_wp2
            go_roundw
            case rel =>
              refine ⟨3, by omega, by go_num, ?_, HR.out.2.1.set3 HZ.out.2.2.2.1 6 7 8 _ _ _, (((HR.out.2.2.setCell (p := ⟨sb, 6, none⟩) HZ.out.2.2.2.2 _).setCell (p := ⟨sb, 7, none⟩) HZ.out.2.2.2.2 _).setCell (p := ⟨sb, 8, none⟩) HZ.out.2.2.2.2 _).drew⟩
              exact ((HR.out.1.set_ 6 (.int .i64 (-x3))).set_ 7 (.int .i64 (-y3))).set_ 8 (.int .i64 (-z3))
            case measure => (simp [intOf]; try omega)
          obtain rfl : k = 3 := by omega
          have i2 : ¬ ((3 : Nat) : Int) < 3 := by omega
          have hbk : Blk R sb 58 #[.int .i64 (-x1), .int .i64 (-y1), .int .i64 (-z1), .int .i64 (-x2), .int .i64 (-y2), .int .i64 (-z2), .int .i64 (-x3), .int .i64 (-y3), .int .i64 (-z3)] := hbk
          have r0 : R.cell? ⟨sb, 0, none⟩ = some (.int .i64 (-x1)) := hbk.cell 0
          have r1 : R.cell? ⟨sb, 1, none⟩ = some (.int .i64 (-y1)) := hbk.cell 1
          have r2 : R.cell? ⟨sb, 2, none⟩ = some (.int .i64 (-z1)) := hbk.cell 2
          have r3 : R.cell? ⟨sb, 3, none⟩ = some (.int .i64 (-x2)) := hbk.cell 3
          have r4 : R.cell? ⟨sb, 4, none⟩ = some (.int .i64 (-y2)) := hbk.cell 4
          have r5 : R.cell? ⟨sb, 5, none⟩ = some (.int .i64 (-z2)) := hbk.cell 5
          have r6 : R.cell? ⟨sb, 6, none⟩ = some (.int .i64 (-x3)) := hbk.cell 6
          have r7 : R.cell? ⟨sb, 7, none⟩ = some (.int .i64 (-y3)) := hbk.cell 7
          have r8 : R.cell? ⟨sb, 8, none⟩ = some (.int .i64 (-z3)) := hbk.cell 8
          have hlt := hbk.lt
          have ho8 := hok.alloc (.cells (encT (negT4 ((x1, y1, z1), (x2, y2, z2), (x3, y3, z3)))).toArray 58)
          have hb8 : Blk (R.alloc (.cells (encT (negT4 ((x1, y1, z1), (x2, y2, z2), (x3, y3, z3)))).toArray 58)) R.heap.size 58 (encT (negT4 ((x1, y1, z1), (x2, y2, z2), (x3, y3, z3)))).toArray := Blk.new _ _ _
          have HR := hide (And.intro ho8 (And.intro hb8 hBk))
          clear hbk hok hBk ho8 hb8
          go_wp2_with (at_builtin; refine wpList_append1 rfl _ _ _ rfl Tryz.underlying28 infoT rfl (by omega) encT_len encT_one rfl HR.out.1 R.heap.size 1 (negT4 ((x1, y1, z1), (x2, y2, z2), (x3, y3, z3))) rfl HR.out.2.1 (by unfold maxLen; omega) (by omega) (by simp; have := HR.out.2.2.size; omega) ?_; intro g cap w5 hown5 hg5 hB5 hat5 hgb5 hlt5; have H5 := hide (And.intro hown5 ((HR.out.2.2.alloc HR.out.2.2.size _).trans hB5)); clear hown5 hg5 hB5 hat5 hgb5 hlt5)
          go_roundw
          case rel => exact ⟨j + 1, by omega, by go_num, by have h := H5.out.1; rw [List.append_assoc, ← HV.out.2.2] at h; exact h, H5.out.2⟩
          case measure => (simp [intOf]; try omega)
      · obtain rfl : j = 4 := by omega
        have i1 : ¬ ((4 : Nat) : Int) < 4 := by omega
        have hown : Own encT 9 58 V Y.heap.size _ 8 twiP := hown
        obtain ⟨A7, c7, rfl⟩ := hown.form
        have hsw := hown.sl encT_len (Nat.le_refl _)
        obtain ⟨sO, hsO⟩ : ∃ s, s = strL [1] := ⟨_, rfl⟩
        have hq1 := fun W => eqWd false sO (by rw [hsO]; decide) W
        have hq2 := sn_eq
        have H := hide (And.intro (HS.out.on hB) hsw)
        have HO := hide hsO
        clear hown hsw hB hsO
        clear i1
        go_upto_region 15 with fail
        have HF := hide (show ∀ W : World, (Blk W bo 41 #[.int .i64 0, .int .i64 0, .int .i64 0] ∧ Blk W bx 41 #[.int .i64 1, .int .i64 0, .int .i64 0] ∧ Blk W by1 41 #[.int .i64 0, .int .i64 1, .int .i64 0] ∧ Blk W bz 41 #[.int .i64 0, .int .i64 0, .int .i64 1] ) → (W.cell? ⟨bo, 0, none⟩ = some (.int .i64 0) ∧ W.cell? ⟨bo, 1, none⟩ = some (.int .i64 0) ∧ W.cell? ⟨bo, 2, none⟩ = some (.int .i64 0)) ∧ (W.cell? ⟨bx, 0, none⟩ = some (.int .i64 1) ∧ W.cell? ⟨bx, 1, none⟩ = some (.int .i64 0) ∧ W.cell? ⟨bx, 2, none⟩ = some (.int .i64 0)) ∧ (W.cell? ⟨by1, 0, none⟩ = some (.int .i64 0) ∧ W.cell? ⟨by1, 1, none⟩ = some (.int .i64 1) ∧ W.cell? ⟨by1, 2, none⟩ = some (.int .i64 0)) ∧ (W.cell? ⟨bz, 0, none⟩ = some (.int .i64 0) ∧ W.cell? ⟨bz, 1, none⟩ = some (.int .i64 0) ∧ W.cell? ⟨bz, 2, none⟩ = some (.int .i64 1)) from fun W h => ⟨⟨h.1.cell 0, h.1.cell 1, h.1.cell 2⟩, ⟨h.2.1.cell 0, h.2.1.cell 1, h.2.1.cell 2⟩, ⟨h.2.2.1.cell 0, h.2.2.1.cell 1, h.2.2.1.cell 2⟩, h.2.2.2.cell 0, h.2.2.2.cell 1, h.2.2.2.cell 2⟩)
        have HQ := hide (show SanS w V.drew bo bx by1 bz tb ub ∧ Sl encT 9 V.drew V.drew.heap.size A7 twiP from ⟨H.out.1.on (Below.refl _ V).drew, H.out.2⟩)
        obtain ⟨V0, hV0⟩ : ∃ W, W = V.drew := ⟨_, rfl⟩
        refine wp_region_tree (fun W => Blk W bo 41 #[.int .i64 0, .int .i64 0, .int .i64 0] ∧ Blk W bx 41 #[.int .i64 1, .int .i64 0, .int .i64 0] ∧ Blk W by1 41 #[.int .i64 0, .int .i64 1, .int .i64 0] ∧ Blk W bz 41 #[.int .i64 0, .int .i64 0, .int .i64 1] ) [0, 2, 3, 4, 6, 7, 8, 9, 12, 13, 14, 15, 16, 18, 19, 20, 21, 22, 24, 25, 26, 27, 28, 30, 31, 32, 33, 34, 35, 36, 37, 38, 41, 42, 43, 45, 46, 47, 48, 50, 51, 52, 53, 54, 55, 56, 58, 59, 60, 61, 62, 63, 64] (.q 0 (.one 1 (.q 2 (.q 3 (.q 4 (.one 5 (.q 6 (.q 7 (.q 8 (.q 9 (.one 10 (.one 11 (.q 12 (.q 13 (.q 14 (.q 15 (.q 16 (.one 17 (.q 18 (.q 19 (.q 20 (.q 21 (.q 22 (.one 23 (.q 24 (.q 25 (.q 26 (.q 27 (.q 28 (.q 30 (.q 31 (.q 32 (.q 33 (.q 34 (.q 35 (.q 36 (.q 37 (.q 38 (.two 29 (.one 39 (.one 40 (.q 41 (.q 42 (.q 43 (.one 44 (.q 45 (.q 46 (.q 47 (.q 48 (.one 49 (.q 50 (.q 51 (.q 52 (.q 53 (.q 54 (.q 55 (.q 56 (.q 58 (.q 59 (.q 60 (.q 61 (.one 57 (.q 62 (.q 63 (.q 64 .nil)))))))))))))))))))))))))) 39 (.one 29 (.one 40 (.q 41 (.q 42 (.q 43 (.one 44 (.q 45 (.q 46 (.q 47 (.q 48 (.one 49 (.q 50 (.q 51 (.q 52 (.q 53 (.q 54 (.q 55 (.q 56 (.q 58 (.q 59 (.q 60 (.q 61 (.one 57 (.q 62 (.q 63 (.q 64 .nil))))))))))))))))))))))))))))))))))))))))))))))))))))))))))))))))) mixed_ok (by kernel_rfl) ?_
        rw [← hV0] at HQ ⊢
        clear hV0
        refine wpMixT_hideL fun OPS Q5 a5 hOPS hQ5 ha5 => ?_
        have HP := hide hOPS
        have s1 : a5.tmps[1]? = some (.pointer (some ⟨bo, 0, none⟩)) := by rw [ha5]; rfl
        have s2 : a5.tmps[2]? = some (.pointer (some ⟨bx, 0, none⟩)) := by rw [ha5]; rfl
        have s3 : a5.tmps[3]? = some (.pointer (some ⟨by1, 0, none⟩)) := by rw [ha5]; rfl
        have s4 : a5.tmps[4]? = some (.pointer (some ⟨bz, 0, none⟩)) := by rw [ha5]; rfl
        have s5 : a5.tmps[5]? = some (.slice (some ⟨tb, 0, none⟩) 4 4) := by rw [ha5]; rfl
        have s6 : a5.tmps[6]? = some (.slice (some ⟨ub, 0, none⟩) 4 4) := by rw [ha5]; rfl
        have s7 : a5.tmps[7]? = some (.slice A7 8 c7) := by rw [ha5]; rfl
        have hsz : a5.tmps.size = 152 := by rw [ha5]; rfl
        have hdf : a5.defers = [] := by rw [ha5]
        have HPn := hide (show ∀ c (a b : Act) w, a.defers = b.defers → Q5 (.panic c) a w → Q5 (.panic c) b w by rw [hQ5]; rintro c ⟨t1, d1⟩ ⟨t2, d2⟩ w hd h; cases hd; exact h)
        have HQ5 := hide hQ5
        clear ha5 hQ5 hOPS
        have HT := hide (show ∀ (a5 : Act) (w9 : World) (A8 : Option Addr) (c8 g : Nat), a5.tmps.size = 152 → a5.defers = [] → a5.tmps[1]? = some (.pointer (some ⟨bo, 0, none⟩)) → a5.tmps[3]? = some (.pointer (some ⟨by1, 0, none⟩)) → a5.tmps[4]? = some (.pointer (some ⟨bz, 0, none⟩)) → a5.tmps[6]? = some (.slice (some ⟨ub, 0, none⟩) 4 4) → a5.tmps[7]? = some (.slice A7 8 c7) → a5.tmps[114]? = some (.bool true) → a5.tmps[117]? = some (.slice A8 3 c8) → a5.tmps[127]? = some (.slice (some ⟨g, 0, none⟩) 3 3) → (SanS w w9 bo bx by1 bz tb ub ∧ Sl encT 9 w9 w9.heap.size A7 twiP) → Calls Tryz.prog 21 #[.slice A8 3 c8, .slice (some ⟨g, 0, none⟩) 3 3] w9 (fun e w' => e = .returned (.bool true) ∧ ∃ k, w' = w9.drewN k) → wpMixT Tryz.prog .any OPS Q5 (fun W => Blk W bo 41 #[.int .i64 0, .int .i64 0, .int .i64 0] ∧ Blk W bx 41 #[.int .i64 1, .int .i64 0, .int .i64 0] ∧ Blk W by1 41 #[.int .i64 0, .int .i64 1, .int .i64 0] ∧ Blk W bz 41 #[.int .i64 0, .int .i64 0, .int .i64 1] ) [0, 2, 3, 4, 6, 7, 8, 9, 12, 13, 14, 15, 16, 18, 19, 20, 21, 22, 24, 25, 26, 27, 28, 30, 31, 32, 33, 34, 35, 36, 37, 38, 41, 42, 43, 45, 46, 47, 48, 50, 51, 52, 53, 54, 55, 56, 58, 59, 60, 61, 62, 63, 64] (.one 40 (.q 41 (.q 42 (.q 43 (.one 44 (.q 45 (.q 46 (.q 47 (.q 48 (.one 49 (.q 50 (.q 51 (.q 52 (.q 53 (.q 54 (.q 55 (.q 56 (.q 58 (.q 59 (.q 60 (.q 61 (.one 57 (.q 62 (.q 63 (.q 64 .nil))))))))))))))))))))))))) a5 w9 by
          intro a5 w9 A8 c8 g hsz hdf s1 s3 s4 s6 s7 s114 s117 s127 h9 hPr
          have H9 := hide h9
          clear h9
          have s26 : a5.tmps[114]? = some (.bool true) := s114
          refine wpMixT_callL (d := 128) (opsAt HP.out 40 rfl) rfl (by rw [hsz]; decide) (wantG rfl (opsAt HP.out 26 rfl) rfl s114) (f := 21) (args := #[.slice A8 3 c8, .slice (some ⟨g, 0, none⟩) 3 3]) (by simp [go_sem, s117, s127]) ?_
          clear s26
          refine Calls.mono hPr ?_
          rintro e w10 ⟨rfl, kd, hw10⟩
          have h10 := And.intro (H9.out.1.on (below_drewN (Below.refl _ w9) kd)) ((H9.out.2.below (below_drewN (Below.refl _ w9) kd)).more (below_drewN (Below.refl w9.heap.size w9) kd).size)
          rw [← hw10] at h10
          have H10 := hide h10
          clear h10
          clear hw10 hPr
          refine ⟨_, rfl, ⟨H10.out.1.o, H10.out.1.x, H10.out.1.y, H10.out.1.z⟩, ?_⟩
          intro b5 gD nE sz df
          replace s1 := (nE 1 (by decide)).trans s1
          replace s3 := (nE 3 (by decide)).trans s3
          replace s4 := (nE 4 (by decide)).trans s4
          replace s6 := (nE 6 (by decide)).trans s6
          replace s7 := (nE 7 (by decide)).trans s7
          replace s114 := (nE 114 (by decide)).trans s114
          clear s117 s127
          have s128 := gD
          replace hsz := sz.trans hsz
          replace hdf := df.trans hdf
          clear gD nE sz df
          clear a5
          obtain ⟨a5, rfl⟩ : ∃ x, x = b5 := ⟨_, rfl⟩
          refine wpMixT_qL (d := 129) (v := .bool true) (opsAt HP.out 41 rfl) rfl (by rw [hsz]; decide) rfl HPn.out ⟨H10.out.1.o, H10.out.1.x, H10.out.1.y, H10.out.1.z⟩ (fun W h => by simp [go_sem, s114, s128]) ?_
          intro b5 gD nE sz df
          replace s1 := (nE 1 (by decide)).trans s1
          replace s3 := (nE 3 (by decide)).trans s3
          replace s4 := (nE 4 (by decide)).trans s4
          replace s6 := (nE 6 (by decide)).trans s6
          replace s7 := (nE 7 (by decide)).trans s7
          clear s114 s128
          have s129 := gD
          replace hsz := sz.trans hsz
          replace hdf := df.trans hdf
          clear gD nE sz df
          clear a5
          obtain ⟨a5, rfl⟩ : ∃ x, x = b5 := ⟨_, rfl⟩
          refine wpMixT_qL (d := 130) (v := .bool true) (opsAt HP.out 42 rfl) rfl (by rw [hsz]; decide) rfl HPn.out ⟨H10.out.1.o, H10.out.1.x, H10.out.1.y, H10.out.1.z⟩ (fun W h => by simp [go_sem, s129]) ?_
          intro b5 gD nE sz df
          replace s1 := (nE 1 (by decide)).trans s1
          replace s3 := (nE 3 (by decide)).trans s3
          replace s4 := (nE 4 (by decide)).trans s4
          replace s6 := (nE 6 (by decide)).trans s6
          replace s7 := (nE 7 (by decide)).trans s7
          clear s129
          have s130 := gD
          replace hsz := sz.trans hsz
          replace hdf := df.trans hdf
          clear gD nE sz df
          clear a5
          obtain ⟨a5, rfl⟩ : ∃ x, x = b5 := ⟨_, rfl⟩
          refine wpMixT_qL (d := 131) (v := .slice (some ⟨ub, 0, none⟩) 4 4) (opsAt HP.out 43 rfl) rfl (by rw [hsz]; decide) (wantG rfl (opsAt HP.out 42 rfl) rfl s130) HPn.out ⟨H10.out.1.o, H10.out.1.x, H10.out.1.y, H10.out.1.z⟩ (fun W h => by simp [go_sem, s6]) ?_
          intro b5 gD nE sz df
          replace s1 := (nE 1 (by decide)).trans s1
          replace s3 := (nE 3 (by decide)).trans s3
          replace s4 := (nE 4 (by decide)).trans s4
          replace s7 := (nE 7 (by decide)).trans s7
          replace s130 := (nE 130 (by decide)).trans s130
          clear s6
          have s131 := gD
          replace hsz := sz.trans hsz
          replace hdf := df.trans hdf
          clear gD nE sz df
          clear a5
          obtain ⟨a5, rfl⟩ : ∃ x, x = b5 := ⟨_, rfl⟩
          refine wpMixT_callL (d := 132) (opsAt HP.out 44 rfl) rfl (by rw [hsz]; decide) (wantG rfl (opsAt HP.out 42 rfl) rfl s130) (f := 14) (args := #[.slice (some ⟨ub, 0, none⟩) 4 4]) (by simp [go_sem, s131]) ?_
          refine Calls.mono (sn_checku H10.out.1) ?_
          rintro e u201 ⟨rfl, hB⟩
          have K1 := hide (And.intro (H10.out.1.on hB) ((H10.out.2.below hB).more hB.size))
          clear hB
          refine ⟨_, rfl, ⟨K1.out.1.o, K1.out.1.x, K1.out.1.y, K1.out.1.z⟩, ?_⟩
          intro b5 gD nE sz df
          replace s1 := (nE 1 (by decide)).trans s1
          replace s3 := (nE 3 (by decide)).trans s3
          replace s4 := (nE 4 (by decide)).trans s4
          replace s7 := (nE 7 (by decide)).trans s7
          replace s130 := (nE 130 (by decide)).trans s130
          clear s131
          have s132 := gD
          replace hsz := sz.trans hsz
          replace hdf := df.trans hdf
          clear gD nE sz df
          clear a5
          obtain ⟨a5, rfl⟩ : ∃ x, x = b5 := ⟨_, rfl⟩
          refine wpMixT_qL (d := 133) (v := .bool true) (opsAt HP.out 45 rfl) rfl (by rw [hsz]; decide) (wantG rfl (opsAt HP.out 42 rfl) rfl s130) HPn.out ⟨K1.out.1.o, K1.out.1.x, K1.out.1.y, K1.out.1.z⟩ (fun W h => by simp [go_sem, s132]) ?_
          intro b5 gD nE sz df
          replace s1 := (nE 1 (by decide)).trans s1
          replace s3 := (nE 3 (by decide)).trans s3
          replace s4 := (nE 4 (by decide)).trans s4
          replace s7 := (nE 7 (by decide)).trans s7
          replace s130 := (nE 130 (by decide)).trans s130
          clear s132
          have s133 := gD
          replace hsz := sz.trans hsz
          replace hdf := df.trans hdf
          clear gD nE sz df
          clear a5
          obtain ⟨a5, rfl⟩ : ∃ x, x = b5 := ⟨_, rfl⟩
          refine wpMixT_qL (d := 134) (v := .bool true) (opsAt HP.out 46 rfl) rfl (by rw [hsz]; decide) rfl HPn.out ⟨K1.out.1.o, K1.out.1.x, K1.out.1.y, K1.out.1.z⟩ (fun W h => by simp [go_sem, s130, s133]) ?_
          intro b5 gD nE sz df
          replace s1 := (nE 1 (by decide)).trans s1
          replace s3 := (nE 3 (by decide)).trans s3
          replace s4 := (nE 4 (by decide)).trans s4
          replace s7 := (nE 7 (by decide)).trans s7
          clear s130 s133
          have s134 := gD
          replace hsz := sz.trans hsz
          replace hdf := df.trans hdf
          clear gD nE sz df
          clear a5
          obtain ⟨a5, rfl⟩ : ∃ x, x = b5 := ⟨_, rfl⟩
          refine wpMixT_qL (d := 135) (v := .bool true) (opsAt HP.out 47 rfl) rfl (by rw [hsz]; decide) rfl HPn.out ⟨K1.out.1.o, K1.out.1.x, K1.out.1.y, K1.out.1.z⟩ (fun W h => by simp [go_sem, s134]) ?_
          intro b5 gD nE sz df
          replace s1 := (nE 1 (by decide)).trans s1
          replace s3 := (nE 3 (by decide)).trans s3
          replace s4 := (nE 4 (by decide)).trans s4
          replace s7 := (nE 7 (by decide)).trans s7
          clear s134
          have s135 := gD
          replace hsz := sz.trans hsz
          replace hdf := df.trans hdf
          clear gD nE sz df
          clear a5
          obtain ⟨a5, rfl⟩ : ∃ x, x = b5 := ⟨_, rfl⟩
          refine wpMixT_qL (d := 136) (v := .slice A7 8 c7) (opsAt HP.out 48 rfl) rfl (by rw [hsz]; decide) (wantG rfl (opsAt HP.out 47 rfl) rfl s135) HPn.out ⟨K1.out.1.o, K1.out.1.x, K1.out.1.y, K1.out.1.z⟩ (fun W h => by simp [go_sem, s7]) ?_
          intro b5 gD nE sz df
          replace s1 := (nE 1 (by decide)).trans s1
          replace s3 := (nE 3 (by decide)).trans s3
          replace s4 := (nE 4 (by decide)).trans s4
          replace s135 := (nE 135 (by decide)).trans s135
          clear s7
          have s136 := gD
          replace hsz := sz.trans hsz
          replace hdf := df.trans hdf
          clear gD nE sz df
          clear a5
          obtain ⟨a5, rfl⟩ : ∃ x, x = b5 := ⟨_, rfl⟩
          refine wpMixT_callL (d := 137) (opsAt HP.out 49 rfl) rfl (by rw [hsz]; decide) (wantG rfl (opsAt HP.out 47 rfl) rfl s135) (f := 14) (args := #[.slice A7 8 c7]) (by simp [go_sem, s136]) ?_
          refine Calls.mono (sn_checkt _ A7 c7 K1.out.2) ?_
          rintro e u202 ⟨rfl, hB⟩
          have K2 := hide (And.intro (K1.out.1.on hB) ((K1.out.2.below hB).more hB.size))
          clear hB
          refine ⟨_, rfl, ⟨K2.out.1.o, K2.out.1.x, K2.out.1.y, K2.out.1.z⟩, ?_⟩
          intro b5 gD nE sz df
          replace s1 := (nE 1 (by decide)).trans s1
          replace s3 := (nE 3 (by decide)).trans s3
          replace s4 := (nE 4 (by decide)).trans s4
          replace s135 := (nE 135 (by decide)).trans s135
          clear s136
          have s137 := gD
          replace hsz := sz.trans hsz
          replace hdf := df.trans hdf
          clear gD nE sz df
          clear a5
          obtain ⟨a5, rfl⟩ : ∃ x, x = b5 := ⟨_, rfl⟩
          refine wpMixT_qL (d := 138) (v := .bool true) (opsAt HP.out 50 rfl) rfl (by rw [hsz]; decide) (wantG rfl (opsAt HP.out 47 rfl) rfl s135) HPn.out ⟨K2.out.1.o, K2.out.1.x, K2.out.1.y, K2.out.1.z⟩ (fun W h => by simp [go_sem, s137]) ?_
          intro b5 gD nE sz df
          replace s1 := (nE 1 (by decide)).trans s1
          replace s3 := (nE 3 (by decide)).trans s3
          replace s4 := (nE 4 (by decide)).trans s4
          replace s135 := (nE 135 (by decide)).trans s135
          clear s137
          have s138 := gD
          replace hsz := sz.trans hsz
          replace hdf := df.trans hdf
          clear gD nE sz df
          clear a5
          obtain ⟨a5, rfl⟩ : ∃ x, x = b5 := ⟨_, rfl⟩
          refine wpMixT_qL (d := 139) (v := .bool true) (opsAt HP.out 51 rfl) rfl (by rw [hsz]; decide) rfl HPn.out ⟨K2.out.1.o, K2.out.1.x, K2.out.1.y, K2.out.1.z⟩ (fun W h => by simp [go_sem, s135, s138]) ?_
          intro b5 gD nE sz df
          replace s1 := (nE 1 (by decide)).trans s1
          replace s3 := (nE 3 (by decide)).trans s3
          replace s4 := (nE 4 (by decide)).trans s4
          clear s135 s138
          have s139 := gD
          replace hsz := sz.trans hsz
          replace hdf := df.trans hdf
          clear gD nE sz df
          clear a5
          obtain ⟨a5, rfl⟩ : ∃ x, x = b5 := ⟨_, rfl⟩
          refine wpMixT_qL (d := 140) (v := .bool true) (opsAt HP.out 52 rfl) rfl (by rw [hsz]; decide) rfl HPn.out ⟨K2.out.1.o, K2.out.1.x, K2.out.1.y, K2.out.1.z⟩ (fun W h => by simp [go_sem, s139]) ?_
          intro b5 gD nE sz df
          replace s1 := (nE 1 (by decide)).trans s1
          replace s3 := (nE 3 (by decide)).trans s3
          replace s4 := (nE 4 (by decide)).trans s4
          clear s139
          have s140 := gD
          replace hsz := sz.trans hsz
          replace hdf := df.trans hdf
          clear gD nE sz df
          clear a5
          obtain ⟨a5, rfl⟩ : ∃ x, x = b5 := ⟨_, rfl⟩
          refine wpMixT_qL (d := 141) (v := .agg #[.int .i64 0, .int .i64 0, .int .i64 1]) (opsAt HP.out 53 rfl) rfl (by rw [hsz]; decide) (wantG rfl (opsAt HP.out 52 rfl) rfl s140) HPn.out ⟨K2.out.1.o, K2.out.1.x, K2.out.1.y, K2.out.1.z⟩ (fun W h => by obtain ⟨⟨o0, o1, o2⟩, ⟨x0, x1, x2⟩, ⟨y0, y1, y2⟩, z0, z1, z2⟩ := HF.out W h; simp [go_sem, s4, z0, z1, z2]) ?_
          intro b5 gD nE sz df
          replace s1 := (nE 1 (by decide)).trans s1
          replace s3 := (nE 3 (by decide)).trans s3
          replace s4 := (nE 4 (by decide)).trans s4
          replace s140 := (nE 140 (by decide)).trans s140
          have s141 := gD
          replace hsz := sz.trans hsz
          replace hdf := df.trans hdf
          clear gD nE sz df
          clear a5
          obtain ⟨a5, rfl⟩ : ∃ x, x = b5 := ⟨_, rfl⟩
          refine wpMixT_qL (d := 142) (v := .agg #[.int .i64 0, .int .i64 1, .int .i64 0]) (opsAt HP.out 54 rfl) rfl (by rw [hsz]; decide) (wantG rfl (opsAt HP.out 52 rfl) rfl s140) HPn.out ⟨K2.out.1.o, K2.out.1.x, K2.out.1.y, K2.out.1.z⟩ (fun W h => by obtain ⟨⟨o0, o1, o2⟩, ⟨x0, x1, x2⟩, ⟨y0, y1, y2⟩, z0, z1, z2⟩ := HF.out W h; simp [go_sem, s3, y0, y1, y2]) ?_
          intro b5 gD nE sz df
          replace s1 := (nE 1 (by decide)).trans s1
          replace s3 := (nE 3 (by decide)).trans s3
          replace s4 := (nE 4 (by decide)).trans s4
          replace s140 := (nE 140 (by decide)).trans s140
          replace s141 := (nE 141 (by decide)).trans s141
          have s142 := gD
          replace hsz := sz.trans hsz
          replace hdf := df.trans hdf
          clear gD nE sz df
          clear a5
          obtain ⟨a5, rfl⟩ : ∃ x, x = b5 := ⟨_, rfl⟩
          refine wpMixT_qL (d := 143) (v := .agg #[.int .i64 0, .int .i64 0, .int .i64 0]) (opsAt HP.out 55 rfl) rfl (by rw [hsz]; decide) (wantG rfl (opsAt HP.out 52 rfl) rfl s140) HPn.out ⟨K2.out.1.o, K2.out.1.x, K2.out.1.y, K2.out.1.z⟩ (fun W h => by obtain ⟨⟨o0, o1, o2⟩, ⟨x0, x1, x2⟩, ⟨y0, y1, y2⟩, z0, z1, z2⟩ := HF.out W h; simp [go_sem, s1, o0, o1, o2]) ?_
          intro b5 gD nE sz df
          replace s1 := (nE 1 (by decide)).trans s1
          replace s3 := (nE 3 (by decide)).trans s3
          replace s4 := (nE 4 (by decide)).trans s4
          replace s140 := (nE 140 (by decide)).trans s140
          replace s141 := (nE 141 (by decide)).trans s141
          replace s142 := (nE 142 (by decide)).trans s142
          have s143 := gD
          replace hsz := sz.trans hsz
          replace hdf := df.trans hdf
          clear gD nE sz df
          clear a5
          obtain ⟨a5, rfl⟩ : ∃ x, x = b5 := ⟨_, rfl⟩
          refine wpMixT_qL (d := 144) (v := .agg #[.int .i64 0, .int .i64 0, .int .i64 1, .int .i64 0, .int .i64 1, .int .i64 0, .int .i64 0, .int .i64 0, .int .i64 0]) (opsAt HP.out 56 rfl) rfl (by rw [hsz]; decide) (wantG rfl (opsAt HP.out 52 rfl) rfl s140) HPn.out ⟨K2.out.1.o, K2.out.1.x, K2.out.1.y, K2.out.1.z⟩ (fun W h => by simp [go_sem, s141, s142, s143]) ?_
          intro b5 gD nE sz df
          replace s1 := (nE 1 (by decide)).trans s1
          replace s3 := (nE 3 (by decide)).trans s3
          replace s4 := (nE 4 (by decide)).trans s4
          replace s140 := (nE 140 (by decide)).trans s140
          clear s141 s142 s143
          have s144 := gD
          replace hsz := sz.trans hsz
          replace hdf := df.trans hdf
          clear gD nE sz df
          clear a5
          obtain ⟨a5, rfl⟩ : ∃ x, x = b5 := ⟨_, rfl⟩
          refine wpMixT_qL (d := 146) (v := .agg #[.int .i64 0, .int .i64 0, .int .i64 0]) (opsAt HP.out 58 rfl) rfl (by rw [hsz]; decide) (wantG rfl (opsAt HP.out 52 rfl) rfl s140) HPn.out ⟨K2.out.1.o, K2.out.1.x, K2.out.1.y, K2.out.1.z⟩ (fun W h => by obtain ⟨⟨o0, o1, o2⟩, ⟨x0, x1, x2⟩, ⟨y0, y1, y2⟩, z0, z1, z2⟩ := HF.out W h; simp [go_sem, s1, o0, o1, o2]) ?_
          intro b5 gD nE sz df
          replace s3 := (nE 3 (by decide)).trans s3
          replace s4 := (nE 4 (by decide)).trans s4
          replace s140 := (nE 140 (by decide)).trans s140
          replace s144 := (nE 144 (by decide)).trans s144
          clear s1
          have s146 := gD
          replace hsz := sz.trans hsz
          replace hdf := df.trans hdf
          clear gD nE sz df
          clear a5
          obtain ⟨a5, rfl⟩ : ∃ x, x = b5 := ⟨_, rfl⟩
          refine wpMixT_qL (d := 147) (v := .agg #[.int .i64 0, .int .i64 0, .int .i64 1]) (opsAt HP.out 59 rfl) rfl (by rw [hsz]; decide) (wantG rfl (opsAt HP.out 52 rfl) rfl s140) HPn.out ⟨K2.out.1.o, K2.out.1.x, K2.out.1.y, K2.out.1.z⟩ (fun W h => by obtain ⟨⟨o0, o1, o2⟩, ⟨x0, x1, x2⟩, ⟨y0, y1, y2⟩, z0, z1, z2⟩ := HF.out W h; simp [go_sem, s4, z0, z1, z2]) ?_
          intro b5 gD nE sz df
          replace s3 := (nE 3 (by decide)).trans s3
          replace s140 := (nE 140 (by decide)).trans s140
          replace s144 := (nE 144 (by decide)).trans s144
          replace s146 := (nE 146 (by decide)).trans s146
          clear s4
          have s147 := gD
          replace hsz := sz.trans hsz
          replace hdf := df.trans hdf
          clear gD nE sz df
          clear a5
          obtain ⟨a5, rfl⟩ : ∃ x, x = b5 := ⟨_, rfl⟩
          refine wpMixT_qL (d := 148) (v := .agg #[.int .i64 0, .int .i64 1, .int .i64 0]) (opsAt HP.out 60 rfl) rfl (by rw [hsz]; decide) (wantG rfl (opsAt HP.out 52 rfl) rfl s140) HPn.out ⟨K2.out.1.o, K2.out.1.x, K2.out.1.y, K2.out.1.z⟩ (fun W h => by obtain ⟨⟨o0, o1, o2⟩, ⟨x0, x1, x2⟩, ⟨y0, y1, y2⟩, z0, z1, z2⟩ := HF.out W h; simp [go_sem, s3, y0, y1, y2]) ?_
          intro b5 gD nE sz df
          replace s140 := (nE 140 (by decide)).trans s140
          replace s144 := (nE 144 (by decide)).trans s144
          replace s146 := (nE 146 (by decide)).trans s146
          replace s147 := (nE 147 (by decide)).trans s147
          clear s3
          have s148 := gD
          replace hsz := sz.trans hsz
          replace hdf := df.trans hdf
          clear gD nE sz df
          clear a5
          obtain ⟨a5, rfl⟩ : ∃ x, x = b5 := ⟨_, rfl⟩
          refine wpMixT_qL (d := 149) (v := .agg #[.int .i64 0, .int .i64 0, .int .i64 0, .int .i64 0, .int .i64 0, .int .i64 1, .int .i64 0, .int .i64 1, .int .i64 0]) (opsAt HP.out 61 rfl) rfl (by rw [hsz]; decide) (wantG rfl (opsAt HP.out 52 rfl) rfl s140) HPn.out ⟨K2.out.1.o, K2.out.1.x, K2.out.1.y, K2.out.1.z⟩ (fun W h => by simp [go_sem, s146, s147, s148]) ?_
          intro b5 gD nE sz df
          replace s140 := (nE 140 (by decide)).trans s140
          replace s144 := (nE 144 (by decide)).trans s144
          clear s146 s147 s148
          have s149 := gD
          replace hsz := sz.trans hsz
          replace hdf := df.trans hdf
          clear gD nE sz df
          clear a5
          obtain ⟨a5, rfl⟩ : ∃ x, x = b5 := ⟨_, rfl⟩
          refine wpMixT_callL (d := 145) (opsAt HP.out 57 rfl) rfl (by rw [hsz]; decide) (wantG rfl (opsAt HP.out 52 rfl) rfl s140) (f := 39) (args := #[.agg #[.int .i64 0, .int .i64 0, .int .i64 1, .int .i64 0, .int .i64 1, .int .i64 0, .int .i64 0, .int .i64 0, .int .i64 0]]) (by simp [go_sem, s144]) ?_
          refine Calls.mono (sn_rot _) ?_
          rintro e u203 ⟨rfl, hB⟩
          have K3 := hide (And.intro (K2.out.1.on hB) ((K2.out.2.below hB).more hB.size))
          clear hB
          refine ⟨_, rfl, ⟨K3.out.1.o, K3.out.1.x, K3.out.1.y, K3.out.1.z⟩, ?_⟩
          intro b5 gD nE sz df
          replace s140 := (nE 140 (by decide)).trans s140
          replace s149 := (nE 149 (by decide)).trans s149
          clear s144
          have s145 := gD
          replace hsz := sz.trans hsz
          replace hdf := df.trans hdf
          clear gD nE sz df
          clear a5
          obtain ⟨a5, rfl⟩ : ∃ x, x = b5 := ⟨_, rfl⟩
          refine wpMixT_qL (d := 150) (v := .bool true) (opsAt HP.out 62 rfl) rfl (by rw [hsz]; decide) (wantG rfl (opsAt HP.out 52 rfl) rfl s140) HPn.out ⟨K3.out.1.o, K3.out.1.x, K3.out.1.y, K3.out.1.z⟩ (fun W h => by simp [go_sem, s145, s149, hq2]) ?_
          intro b5 gD nE sz df
          replace s140 := (nE 140 (by decide)).trans s140
          clear s145 s149
          have s150 := gD
          replace hsz := sz.trans hsz
          replace hdf := df.trans hdf
          clear gD nE sz df
          clear a5
          obtain ⟨a5, rfl⟩ : ∃ x, x = b5 := ⟨_, rfl⟩
          refine wpMixT_qL (d := 151) (v := .bool true) (opsAt HP.out 63 rfl) rfl (by rw [hsz]; decide) rfl HPn.out ⟨K3.out.1.o, K3.out.1.x, K3.out.1.y, K3.out.1.z⟩ (fun W h => by simp [go_sem, s140, s150]) ?_
          intro b5 gD nE sz df
          clear s140 s150
          have s151 := gD
          replace hsz := sz.trans hsz
          replace hdf := df.trans hdf
          clear gD nE sz df
          clear a5
          obtain ⟨a5, rfl⟩ : ∃ x, x = b5 := ⟨_, rfl⟩
          refine wpMixT_qL (d := 0) (v := .bool true) (opsAt HP.out 64 rfl) rfl (by rw [hsz]; decide) rfl HPn.out ⟨K3.out.1.o, K3.out.1.x, K3.out.1.y, K3.out.1.z⟩ (fun W h => by simp [go_sem, s151]) ?_
          intro b5 gD nE sz df
          clear s151
          have s0 := gD
          replace hsz := sz.trans hsz
          replace hdf := df.trans hdf
          clear gD nE sz df
          clear a5
          obtain ⟨a5, rfl⟩ : ∃ x, x = b5 := ⟨_, rfl⟩
          refine wpMixT_nil ?_
          rw [HQ5.out]
          go_wp2
          refine bodyPost_ret (results_tmp rfl _ _ _) hdf ?_
          refine ⟨?_, K3.out.1.bel⟩
          rw [Array.getD_eq_getD_getElem?, s0]; rfl)
        refine wpMixT_qL (d := 88) (v := .slice (some ⟨tb, 0, none⟩) 4 4) (opsAt HP.out 0 rfl) rfl (by rw [hsz]; decide) rfl HPn.out ⟨HQ.out.1.o, HQ.out.1.x, HQ.out.1.y, HQ.out.1.z⟩ (fun W h => by simp [go_sem, s5]) ?_
        intro b5 gD nE sz df
        replace s1 := (nE 1 (by decide)).trans s1
        replace s2 := (nE 2 (by decide)).trans s2
        replace s3 := (nE 3 (by decide)).trans s3
        replace s4 := (nE 4 (by decide)).trans s4
        replace s5 := (nE 5 (by decide)).trans s5
        replace s6 := (nE 6 (by decide)).trans s6
        replace s7 := (nE 7 (by decide)).trans s7
        have s88 := gD
        replace hsz := sz.trans hsz
        replace hdf := df.trans hdf
        clear gD nE sz df
        clear a5
        obtain ⟨a5, rfl⟩ : ∃ x, x = b5 := ⟨_, rfl⟩
        refine wpMixT_callL (d := 89) (opsAt HP.out 1 rfl) rfl (by rw [hsz]; decide) rfl (f := 14) (args := #[.slice (some ⟨tb, 0, none⟩) 4 4]) (by simp [go_sem, s88]) ?_
        refine Calls.mono (sn_check HQ.out.1) ?_
        rintro e u201 ⟨rfl, hB⟩
        have K1 := hide (And.intro (HQ.out.1.on hB) ((HQ.out.2.below hB).more hB.size))
        clear hB
        refine ⟨_, rfl, ⟨K1.out.1.o, K1.out.1.x, K1.out.1.y, K1.out.1.z⟩, ?_⟩
        intro b5 gD nE sz df
        replace s1 := (nE 1 (by decide)).trans s1
        replace s2 := (nE 2 (by decide)).trans s2
        replace s3 := (nE 3 (by decide)).trans s3
        replace s4 := (nE 4 (by decide)).trans s4
        replace s5 := (nE 5 (by decide)).trans s5
        replace s6 := (nE 6 (by decide)).trans s6
        replace s7 := (nE 7 (by decide)).trans s7
        clear s88
        have s89 := gD
        replace hsz := sz.trans hsz
        replace hdf := df.trans hdf
        clear gD nE sz df
        clear a5
        obtain ⟨a5, rfl⟩ : ∃ x, x = b5 := ⟨_, rfl⟩
        refine wpMixT_qL (d := 90) (v := .bool true) (opsAt HP.out 2 rfl) rfl (by rw [hsz]; decide) rfl HPn.out ⟨K1.out.1.o, K1.out.1.x, K1.out.1.y, K1.out.1.z⟩ (fun W h => by simp [go_sem, s89]) ?_
        intro b5 gD nE sz df
        replace s1 := (nE 1 (by decide)).trans s1
        replace s2 := (nE 2 (by decide)).trans s2
        replace s3 := (nE 3 (by decide)).trans s3
        replace s4 := (nE 4 (by decide)).trans s4
        replace s5 := (nE 5 (by decide)).trans s5
        replace s6 := (nE 6 (by decide)).trans s6
        replace s7 := (nE 7 (by decide)).trans s7
        clear s89
        have s90 := gD
        replace hsz := sz.trans hsz
        replace hdf := df.trans hdf
        clear gD nE sz df
        clear a5
        obtain ⟨a5, rfl⟩ : ∃ x, x = b5 := ⟨_, rfl⟩
        refine wpMixT_qL (d := 91) (v := .bool true) (opsAt HP.out 3 rfl) rfl (by rw [hsz]; decide) rfl HPn.out ⟨K1.out.1.o, K1.out.1.x, K1.out.1.y, K1.out.1.z⟩ (fun W h => by simp [go_sem, s90]) ?_
        intro b5 gD nE sz df
        replace s1 := (nE 1 (by decide)).trans s1
        replace s2 := (nE 2 (by decide)).trans s2
        replace s3 := (nE 3 (by decide)).trans s3
        replace s4 := (nE 4 (by decide)).trans s4
        replace s5 := (nE 5 (by decide)).trans s5
        replace s6 := (nE 6 (by decide)).trans s6
        replace s7 := (nE 7 (by decide)).trans s7
        clear s90
        have s91 := gD
        replace hsz := sz.trans hsz
        replace hdf := df.trans hdf
        clear gD nE sz df
        clear a5
        obtain ⟨a5, rfl⟩ : ∃ x, x = b5 := ⟨_, rfl⟩
        refine wpMixT_qL (d := 92) (v := .slice (some ⟨tb, 0, none⟩) 4 4) (opsAt HP.out 4 rfl) rfl (by rw [hsz]; decide) (wantG rfl (opsAt HP.out 3 rfl) rfl s91) HPn.out ⟨K1.out.1.o, K1.out.1.x, K1.out.1.y, K1.out.1.z⟩ (fun W h => by simp [go_sem, s5]) ?_
        intro b5 gD nE sz df
        replace s1 := (nE 1 (by decide)).trans s1
        replace s2 := (nE 2 (by decide)).trans s2
        replace s3 := (nE 3 (by decide)).trans s3
        replace s4 := (nE 4 (by decide)).trans s4
        replace s5 := (nE 5 (by decide)).trans s5
        replace s6 := (nE 6 (by decide)).trans s6
        replace s7 := (nE 7 (by decide)).trans s7
        replace s91 := (nE 91 (by decide)).trans s91
        have s92 := gD
        replace hsz := sz.trans hsz
        replace hdf := df.trans hdf
        clear gD nE sz df
        clear a5
        obtain ⟨a5, rfl⟩ : ∃ x, x = b5 := ⟨_, rfl⟩
        refine wpMixT_callL (d := 93) (opsAt HP.out 5 rfl) rfl (by rw [hsz]; decide) (wantG rfl (opsAt HP.out 3 rfl) rfl s91) (f := 36) (args := #[.slice (some ⟨tb, 0, none⟩) 4 4]) (by simp [go_sem, s92]) ?_
        refine Calls.mono (sn_euler K1.out.1) ?_
        rintro e u202 ⟨rfl, hB⟩
        have K2 := hide (And.intro (K1.out.1.on hB) ((K1.out.2.below hB).more hB.size))
        clear hB
        refine ⟨_, rfl, ⟨K2.out.1.o, K2.out.1.x, K2.out.1.y, K2.out.1.z⟩, ?_⟩
        intro b5 gD nE sz df
        replace s1 := (nE 1 (by decide)).trans s1
        replace s2 := (nE 2 (by decide)).trans s2
        replace s3 := (nE 3 (by decide)).trans s3
        replace s4 := (nE 4 (by decide)).trans s4
        replace s5 := (nE 5 (by decide)).trans s5
        replace s6 := (nE 6 (by decide)).trans s6
        replace s7 := (nE 7 (by decide)).trans s7
        replace s91 := (nE 91 (by decide)).trans s91
        clear s92
        have s93 := gD
        replace hsz := sz.trans hsz
        replace hdf := df.trans hdf
        clear gD nE sz df
        clear a5
        obtain ⟨a5, rfl⟩ : ∃ x, x = b5 := ⟨_, rfl⟩
        refine wpMixT_qL (d := 94) (v := .bool true) (opsAt HP.out 6 rfl) rfl (by rw [hsz]; decide) (wantG rfl (opsAt HP.out 3 rfl) rfl s91) HPn.out ⟨K2.out.1.o, K2.out.1.x, K2.out.1.y, K2.out.1.z⟩ (fun W h => by simp [go_sem, s93]) ?_
        intro b5 gD nE sz df
        replace s1 := (nE 1 (by decide)).trans s1
        replace s2 := (nE 2 (by decide)).trans s2
        replace s3 := (nE 3 (by decide)).trans s3
        replace s4 := (nE 4 (by decide)).trans s4
        replace s5 := (nE 5 (by decide)).trans s5
        replace s6 := (nE 6 (by decide)).trans s6
        replace s7 := (nE 7 (by decide)).trans s7
        replace s91 := (nE 91 (by decide)).trans s91
        clear s93
        have s94 := gD
        replace hsz := sz.trans hsz
        replace hdf := df.trans hdf
        clear gD nE sz df
        clear a5
        obtain ⟨a5, rfl⟩ : ∃ x, x = b5 := ⟨_, rfl⟩
        refine wpMixT_qL (d := 95) (v := .bool true) (opsAt HP.out 7 rfl) rfl (by rw [hsz]; decide) rfl HPn.out ⟨K2.out.1.o, K2.out.1.x, K2.out.1.y, K2.out.1.z⟩ (fun W h => by simp [go_sem, s91, s94]) ?_
        intro b5 gD nE sz df
        replace s1 := (nE 1 (by decide)).trans s1
        replace s2 := (nE 2 (by decide)).trans s2
        replace s3 := (nE 3 (by decide)).trans s3
        replace s4 := (nE 4 (by decide)).trans s4
        replace s5 := (nE 5 (by decide)).trans s5
        replace s6 := (nE 6 (by decide)).trans s6
        replace s7 := (nE 7 (by decide)).trans s7
        clear s91 s94
        have s95 := gD
        replace hsz := sz.trans hsz
        replace hdf := df.trans hdf
        clear gD nE sz df
        clear a5
        obtain ⟨a5, rfl⟩ : ∃ x, x = b5 := ⟨_, rfl⟩
        refine wpMixT_qL (d := 96) (v := .bool true) (opsAt HP.out 8 rfl) rfl (by rw [hsz]; decide) rfl HPn.out ⟨K2.out.1.o, K2.out.1.x, K2.out.1.y, K2.out.1.z⟩ (fun W h => by simp [go_sem, s95]) ?_
        intro b5 gD nE sz df
        replace s1 := (nE 1 (by decide)).trans s1
        replace s2 := (nE 2 (by decide)).trans s2
        replace s3 := (nE 3 (by decide)).trans s3
        replace s4 := (nE 4 (by decide)).trans s4
        replace s5 := (nE 5 (by decide)).trans s5
        replace s6 := (nE 6 (by decide)).trans s6
        replace s7 := (nE 7 (by decide)).trans s7
        clear s95
        have s96 := gD
        replace hsz := sz.trans hsz
        replace hdf := df.trans hdf
        clear gD nE sz df
        clear a5
        obtain ⟨a5, rfl⟩ : ∃ x, x = b5 := ⟨_, rfl⟩
        refine wpMixT_qL (d := 97) (v := .slice (some ⟨tb, 0, none⟩) 4 4) (opsAt HP.out 9 rfl) rfl (by rw [hsz]; decide) (wantG rfl (opsAt HP.out 8 rfl) rfl s96) HPn.out ⟨K2.out.1.o, K2.out.1.x, K2.out.1.y, K2.out.1.z⟩ (fun W h => by simp [go_sem, s5]) ?_
        intro b5 gD nE sz df
        replace s1 := (nE 1 (by decide)).trans s1
        replace s2 := (nE 2 (by decide)).trans s2
        replace s3 := (nE 3 (by decide)).trans s3
        replace s4 := (nE 4 (by decide)).trans s4
        replace s5 := (nE 5 (by decide)).trans s5
        replace s6 := (nE 6 (by decide)).trans s6
        replace s7 := (nE 7 (by decide)).trans s7
        replace s96 := (nE 96 (by decide)).trans s96
        have s97 := gD
        replace hsz := sz.trans hsz
        replace hdf := df.trans hdf
        clear gD nE sz df
        clear a5
        obtain ⟨a5, rfl⟩ : ∃ x, x = b5 := ⟨_, rfl⟩
        refine wpMixT_callL (d := 98) (opsAt HP.out 10 rfl) rfl (by rw [hsz]; decide) (wantG rfl (opsAt HP.out 8 rfl) rfl s96) (f := 26) (args := #[.slice (some ⟨tb, 0, none⟩) 4 4]) (by simp [go_sem, s97]) ?_
        refine Calls.mono (sn_vol K2.out.1 sO HO.out) ?_
        rintro e u203 ⟨rfl, hB⟩
        have K3 := hide (And.intro (K2.out.1.on hB) ((K2.out.2.below hB).more hB.size))
        clear hB
        refine ⟨_, rfl, ⟨K3.out.1.o, K3.out.1.x, K3.out.1.y, K3.out.1.z⟩, ?_⟩
        intro b5 gD nE sz df
        replace s1 := (nE 1 (by decide)).trans s1
        replace s2 := (nE 2 (by decide)).trans s2
        replace s3 := (nE 3 (by decide)).trans s3
        replace s4 := (nE 4 (by decide)).trans s4
        replace s5 := (nE 5 (by decide)).trans s5
        replace s6 := (nE 6 (by decide)).trans s6
        replace s7 := (nE 7 (by decide)).trans s7
        replace s96 := (nE 96 (by decide)).trans s96
        clear s97
        have s98 := gD
        replace hsz := sz.trans hsz
        replace hdf := df.trans hdf
        clear gD nE sz df
        clear a5
        obtain ⟨a5, rfl⟩ : ∃ x, x = b5 := ⟨_, rfl⟩
        refine wpMixT_callL (d := 99) (opsAt HP.out 11 rfl) rfl (by rw [hsz]; decide) (wantG rfl (opsAt HP.out 8 rfl) rfl s96) (f := 38) (args := #[.int .i64 1]) (by simp [go_sem]) ?_
        refine Calls.mono (sn_from _ sO HO.out) ?_
        rintro e u204 ⟨rfl, hB⟩
        have K4 := hide (And.intro (K3.out.1.on hB) ((K3.out.2.below hB).more hB.size))
        clear hB
        refine ⟨_, rfl, ⟨K4.out.1.o, K4.out.1.x, K4.out.1.y, K4.out.1.z⟩, ?_⟩
        intro b5 gD nE sz df
        replace s1 := (nE 1 (by decide)).trans s1
        replace s2 := (nE 2 (by decide)).trans s2
        replace s3 := (nE 3 (by decide)).trans s3
        replace s4 := (nE 4 (by decide)).trans s4
        replace s5 := (nE 5 (by decide)).trans s5
        replace s6 := (nE 6 (by decide)).trans s6
        replace s7 := (nE 7 (by decide)).trans s7
        replace s96 := (nE 96 (by decide)).trans s96
        replace s98 := (nE 98 (by decide)).trans s98
        have s99 := gD
        replace hsz := sz.trans hsz
        replace hdf := df.trans hdf
        clear gD nE sz df
        clear a5
        obtain ⟨a5, rfl⟩ : ∃ x, x = b5 := ⟨_, rfl⟩
        refine wpMixT_qL (d := 100) (v := .bool true) (opsAt HP.out 12 rfl) rfl (by rw [hsz]; decide) (wantG rfl (opsAt HP.out 8 rfl) rfl s96) HPn.out ⟨K4.out.1.o, K4.out.1.x, K4.out.1.y, K4.out.1.z⟩ (fun W h => by simp [go_sem, s98, s99, hq1]) ?_
        intro b5 gD nE sz df
        replace s1 := (nE 1 (by decide)).trans s1
        replace s2 := (nE 2 (by decide)).trans s2
        replace s3 := (nE 3 (by decide)).trans s3
        replace s4 := (nE 4 (by decide)).trans s4
        replace s5 := (nE 5 (by decide)).trans s5
        replace s6 := (nE 6 (by decide)).trans s6
        replace s7 := (nE 7 (by decide)).trans s7
        replace s96 := (nE 96 (by decide)).trans s96
        clear s98 s99
        have s100 := gD
        replace hsz := sz.trans hsz
        replace hdf := df.trans hdf
        clear gD nE sz df
        clear a5
        obtain ⟨a5, rfl⟩ : ∃ x, x = b5 := ⟨_, rfl⟩
        refine wpMixT_qL (d := 101) (v := .bool true) (opsAt HP.out 13 rfl) rfl (by rw [hsz]; decide) rfl HPn.out ⟨K4.out.1.o, K4.out.1.x, K4.out.1.y, K4.out.1.z⟩ (fun W h => by simp [go_sem, s96, s100]) ?_
        intro b5 gD nE sz df
        replace s1 := (nE 1 (by decide)).trans s1
        replace s2 := (nE 2 (by decide)).trans s2
        replace s3 := (nE 3 (by decide)).trans s3
        replace s4 := (nE 4 (by decide)).trans s4
        replace s5 := (nE 5 (by decide)).trans s5
        replace s6 := (nE 6 (by decide)).trans s6
        replace s7 := (nE 7 (by decide)).trans s7
        clear s96 s100
        have s101 := gD
        replace hsz := sz.trans hsz
        replace hdf := df.trans hdf
        clear gD nE sz df
        clear a5
        obtain ⟨a5, rfl⟩ : ∃ x, x = b5 := ⟨_, rfl⟩
        refine wpMixT_qL (d := 102) (v := .bool true) (opsAt HP.out 14 rfl) rfl (by rw [hsz]; decide) rfl HPn.out ⟨K4.out.1.o, K4.out.1.x, K4.out.1.y, K4.out.1.z⟩ (fun W h => by simp [go_sem, s101]) ?_
        intro b5 gD nE sz df
        replace s1 := (nE 1 (by decide)).trans s1
        replace s2 := (nE 2 (by decide)).trans s2
        replace s3 := (nE 3 (by decide)).trans s3
        replace s4 := (nE 4 (by decide)).trans s4
        replace s5 := (nE 5 (by decide)).trans s5
        replace s6 := (nE 6 (by decide)).trans s6
        replace s7 := (nE 7 (by decide)).trans s7
        clear s101
        have s102 := gD
        replace hsz := sz.trans hsz
        replace hdf := df.trans hdf
        clear gD nE sz df
        clear a5
        obtain ⟨a5, rfl⟩ : ∃ x, x = b5 := ⟨_, rfl⟩
        refine wpMixT_qL (d := 103) (v := .slice (some ⟨tb, 0, none⟩) 4 4) (opsAt HP.out 15 rfl) rfl (by rw [hsz]; decide) (wantG rfl (opsAt HP.out 14 rfl) rfl s102) HPn.out ⟨K4.out.1.o, K4.out.1.x, K4.out.1.y, K4.out.1.z⟩ (fun W h => by simp [go_sem, s5]) ?_
        intro b5 gD nE sz df
        replace s1 := (nE 1 (by decide)).trans s1
        replace s2 := (nE 2 (by decide)).trans s2
        replace s3 := (nE 3 (by decide)).trans s3
        replace s4 := (nE 4 (by decide)).trans s4
        replace s5 := (nE 5 (by decide)).trans s5
        replace s6 := (nE 6 (by decide)).trans s6
        replace s7 := (nE 7 (by decide)).trans s7
        replace s102 := (nE 102 (by decide)).trans s102
        have s103 := gD
        replace hsz := sz.trans hsz
        replace hdf := df.trans hdf
        clear gD nE sz df
        clear a5
        obtain ⟨a5, rfl⟩ : ∃ x, x = b5 := ⟨_, rfl⟩
        refine wpMixT_qL (d := 104) (v := .slice (some ⟨tb, 0, none⟩) 3 4) (opsAt HP.out 16 rfl) rfl (by rw [hsz]; decide) (wantG rfl (opsAt HP.out 14 rfl) rfl s102) HPn.out ⟨K4.out.1.o, K4.out.1.x, K4.out.1.y, K4.out.1.z⟩ (fun W h => by simp [go_sem, s103]) ?_
        intro b5 gD nE sz df
        replace s1 := (nE 1 (by decide)).trans s1
        replace s2 := (nE 2 (by decide)).trans s2
        replace s3 := (nE 3 (by decide)).trans s3
        replace s4 := (nE 4 (by decide)).trans s4
        replace s5 := (nE 5 (by decide)).trans s5
        replace s6 := (nE 6 (by decide)).trans s6
        replace s7 := (nE 7 (by decide)).trans s7
        replace s102 := (nE 102 (by decide)).trans s102
        clear s103
        have s104 := gD
        replace hsz := sz.trans hsz
        replace hdf := df.trans hdf
        clear gD nE sz df
        clear a5
        obtain ⟨a5, rfl⟩ : ∃ x, x = b5 := ⟨_, rfl⟩
        refine wpMixT_callL (d := 105) (opsAt HP.out 17 rfl) rfl (by rw [hsz]; decide) (wantG rfl (opsAt HP.out 14 rfl) rfl s102) (f := 14) (args := #[.slice (some ⟨tb, 0, none⟩) 3 4]) (by simp [go_sem, s104]) ?_
        refine Calls.mono (sn_check3 K4.out.1) ?_
        rintro e u205 ⟨rfl, hB⟩
        have K5 := hide (And.intro (K4.out.1.on hB) ((K4.out.2.below hB).more hB.size))
        clear hB
        refine ⟨_, rfl, ⟨K5.out.1.o, K5.out.1.x, K5.out.1.y, K5.out.1.z⟩, ?_⟩
        intro b5 gD nE sz df
        replace s1 := (nE 1 (by decide)).trans s1
        replace s2 := (nE 2 (by decide)).trans s2
        replace s3 := (nE 3 (by decide)).trans s3
        replace s4 := (nE 4 (by decide)).trans s4
        replace s5 := (nE 5 (by decide)).trans s5
        replace s6 := (nE 6 (by decide)).trans s6
        replace s7 := (nE 7 (by decide)).trans s7
        replace s102 := (nE 102 (by decide)).trans s102
        clear s104
        have s105 := gD
        replace hsz := sz.trans hsz
        replace hdf := df.trans hdf
        clear gD nE sz df
        clear a5
        obtain ⟨a5, rfl⟩ : ∃ x, x = b5 := ⟨_, rfl⟩
        refine wpMixT_qL (d := 106) (v := .bool true) (opsAt HP.out 18 rfl) rfl (by rw [hsz]; decide) (wantG rfl (opsAt HP.out 14 rfl) rfl s102) HPn.out ⟨K5.out.1.o, K5.out.1.x, K5.out.1.y, K5.out.1.z⟩ (fun W h => by simp [go_sem, s105]) ?_
        intro b5 gD nE sz df
        replace s1 := (nE 1 (by decide)).trans s1
        replace s2 := (nE 2 (by decide)).trans s2
        replace s3 := (nE 3 (by decide)).trans s3
        replace s4 := (nE 4 (by decide)).trans s4
        replace s5 := (nE 5 (by decide)).trans s5
        replace s6 := (nE 6 (by decide)).trans s6
        replace s7 := (nE 7 (by decide)).trans s7
        replace s102 := (nE 102 (by decide)).trans s102
        clear s105
        have s106 := gD
        replace hsz := sz.trans hsz
        replace hdf := df.trans hdf
        clear gD nE sz df
        clear a5
        obtain ⟨a5, rfl⟩ : ∃ x, x = b5 := ⟨_, rfl⟩
        refine wpMixT_qL (d := 107) (v := .bool true) (opsAt HP.out 19 rfl) rfl (by rw [hsz]; decide) rfl HPn.out ⟨K5.out.1.o, K5.out.1.x, K5.out.1.y, K5.out.1.z⟩ (fun W h => by simp [go_sem, s102, s106]) ?_
        intro b5 gD nE sz df
        replace s1 := (nE 1 (by decide)).trans s1
        replace s2 := (nE 2 (by decide)).trans s2
        replace s3 := (nE 3 (by decide)).trans s3
        replace s4 := (nE 4 (by decide)).trans s4
        replace s5 := (nE 5 (by decide)).trans s5
        replace s6 := (nE 6 (by decide)).trans s6
        replace s7 := (nE 7 (by decide)).trans s7
        clear s102 s106
        have s107 := gD
        replace hsz := sz.trans hsz
        replace hdf := df.trans hdf
        clear gD nE sz df
        clear a5
        obtain ⟨a5, rfl⟩ : ∃ x, x = b5 := ⟨_, rfl⟩
        refine wpMixT_qL (d := 108) (v := .bool true) (opsAt HP.out 20 rfl) rfl (by rw [hsz]; decide) rfl HPn.out ⟨K5.out.1.o, K5.out.1.x, K5.out.1.y, K5.out.1.z⟩ (fun W h => by simp [go_sem, s107]) ?_
        intro b5 gD nE sz df
        replace s1 := (nE 1 (by decide)).trans s1
        replace s2 := (nE 2 (by decide)).trans s2
        replace s3 := (nE 3 (by decide)).trans s3
        replace s4 := (nE 4 (by decide)).trans s4
        replace s5 := (nE 5 (by decide)).trans s5
        replace s6 := (nE 6 (by decide)).trans s6
        replace s7 := (nE 7 (by decide)).trans s7
        clear s107
        have s108 := gD
        replace hsz := sz.trans hsz
        replace hdf := df.trans hdf
        clear gD nE sz df
        clear a5
        obtain ⟨a5, rfl⟩ : ∃ x, x = b5 := ⟨_, rfl⟩
        refine wpMixT_qL (d := 109) (v := .slice (some ⟨tb, 0, none⟩) 4 4) (opsAt HP.out 21 rfl) rfl (by rw [hsz]; decide) (wantG rfl (opsAt HP.out 20 rfl) rfl s108) HPn.out ⟨K5.out.1.o, K5.out.1.x, K5.out.1.y, K5.out.1.z⟩ (fun W h => by simp [go_sem, s5]) ?_
        intro b5 gD nE sz df
        replace s1 := (nE 1 (by decide)).trans s1
        replace s2 := (nE 2 (by decide)).trans s2
        replace s3 := (nE 3 (by decide)).trans s3
        replace s4 := (nE 4 (by decide)).trans s4
        replace s5 := (nE 5 (by decide)).trans s5
        replace s6 := (nE 6 (by decide)).trans s6
        replace s7 := (nE 7 (by decide)).trans s7
        replace s108 := (nE 108 (by decide)).trans s108
        have s109 := gD
        replace hsz := sz.trans hsz
        replace hdf := df.trans hdf
        clear gD nE sz df
        clear a5
        obtain ⟨a5, rfl⟩ : ∃ x, x = b5 := ⟨_, rfl⟩
        refine wpMixT_qL (d := 110) (v := .slice (some ⟨tb, 0, none⟩) 3 4) (opsAt HP.out 22 rfl) rfl (by rw [hsz]; decide) (wantG rfl (opsAt HP.out 20 rfl) rfl s108) HPn.out ⟨K5.out.1.o, K5.out.1.x, K5.out.1.y, K5.out.1.z⟩ (fun W h => by simp [go_sem, s109]) ?_
        intro b5 gD nE sz df
        replace s1 := (nE 1 (by decide)).trans s1
        replace s2 := (nE 2 (by decide)).trans s2
        replace s3 := (nE 3 (by decide)).trans s3
        replace s4 := (nE 4 (by decide)).trans s4
        replace s5 := (nE 5 (by decide)).trans s5
        replace s6 := (nE 6 (by decide)).trans s6
        replace s7 := (nE 7 (by decide)).trans s7
        replace s108 := (nE 108 (by decide)).trans s108
        clear s109
        have s110 := gD
        replace hsz := sz.trans hsz
        replace hdf := df.trans hdf
        clear gD nE sz df
        clear a5
        obtain ⟨a5, rfl⟩ : ∃ x, x = b5 := ⟨_, rfl⟩
        refine wpMixT_callL (d := 111) (opsAt HP.out 23 rfl) rfl (by rw [hsz]; decide) (wantG rfl (opsAt HP.out 20 rfl) rfl s108) (f := 16) (args := #[.slice (some ⟨tb, 0, none⟩) 3 4]) (by simp [go_sem, s110]) ?_
        refine Calls.mono (sn_open3 K5.out.1) ?_
        rintro e u206 ⟨rfl, hB⟩
        have K6 := hide (And.intro (K5.out.1.on hB) ((K5.out.2.below hB).more hB.size))
        clear hB
        refine ⟨_, rfl, ⟨K6.out.1.o, K6.out.1.x, K6.out.1.y, K6.out.1.z⟩, ?_⟩
        intro b5 gD nE sz df
        replace s1 := (nE 1 (by decide)).trans s1
        replace s2 := (nE 2 (by decide)).trans s2
        replace s3 := (nE 3 (by decide)).trans s3
        replace s4 := (nE 4 (by decide)).trans s4
        replace s5 := (nE 5 (by decide)).trans s5
        replace s6 := (nE 6 (by decide)).trans s6
        replace s7 := (nE 7 (by decide)).trans s7
        replace s108 := (nE 108 (by decide)).trans s108
        clear s110
        have s111 := gD
        replace hsz := sz.trans hsz
        replace hdf := df.trans hdf
        clear gD nE sz df
        clear a5
        obtain ⟨a5, rfl⟩ : ∃ x, x = b5 := ⟨_, rfl⟩
        refine wpMixT_qL (d := 112) (v := .bool true) (opsAt HP.out 24 rfl) rfl (by rw [hsz]; decide) (wantG rfl (opsAt HP.out 20 rfl) rfl s108) HPn.out ⟨K6.out.1.o, K6.out.1.x, K6.out.1.y, K6.out.1.z⟩ (fun W h => by simp [go_sem, s111]) ?_
        intro b5 gD nE sz df
        replace s1 := (nE 1 (by decide)).trans s1
        replace s2 := (nE 2 (by decide)).trans s2
        replace s3 := (nE 3 (by decide)).trans s3
        replace s4 := (nE 4 (by decide)).trans s4
        replace s5 := (nE 5 (by decide)).trans s5
        replace s6 := (nE 6 (by decide)).trans s6
        replace s7 := (nE 7 (by decide)).trans s7
        replace s108 := (nE 108 (by decide)).trans s108
        clear s111
        have s112 := gD
        replace hsz := sz.trans hsz
        replace hdf := df.trans hdf
        clear gD nE sz df
        clear a5
        obtain ⟨a5, rfl⟩ : ∃ x, x = b5 := ⟨_, rfl⟩
        refine wpMixT_qL (d := 113) (v := .bool true) (opsAt HP.out 25 rfl) rfl (by rw [hsz]; decide) rfl HPn.out ⟨K6.out.1.o, K6.out.1.x, K6.out.1.y, K6.out.1.z⟩ (fun W h => by simp [go_sem, s108, s112]) ?_
        intro b5 gD nE sz df
        replace s1 := (nE 1 (by decide)).trans s1
        replace s2 := (nE 2 (by decide)).trans s2
        replace s3 := (nE 3 (by decide)).trans s3
        replace s4 := (nE 4 (by decide)).trans s4
        replace s5 := (nE 5 (by decide)).trans s5
        replace s6 := (nE 6 (by decide)).trans s6
        replace s7 := (nE 7 (by decide)).trans s7
        clear s108 s112
        have s113 := gD
        replace hsz := sz.trans hsz
        replace hdf := df.trans hdf
        clear gD nE sz df
        clear a5
        obtain ⟨a5, rfl⟩ : ∃ x, x = b5 := ⟨_, rfl⟩
        refine wpMixT_qL (d := 114) (v := .bool true) (opsAt HP.out 26 rfl) rfl (by rw [hsz]; decide) rfl HPn.out ⟨K6.out.1.o, K6.out.1.x, K6.out.1.y, K6.out.1.z⟩ (fun W h => by simp [go_sem, s113]) ?_
        intro b5 gD nE sz df
        replace s1 := (nE 1 (by decide)).trans s1
        replace s2 := (nE 2 (by decide)).trans s2
        replace s3 := (nE 3 (by decide)).trans s3
        replace s4 := (nE 4 (by decide)).trans s4
        replace s5 := (nE 5 (by decide)).trans s5
        replace s6 := (nE 6 (by decide)).trans s6
        replace s7 := (nE 7 (by decide)).trans s7
        clear s113
        have s114 := gD
        replace hsz := sz.trans hsz
        replace hdf := df.trans hdf
        clear gD nE sz df
        clear a5
        obtain ⟨a5, rfl⟩ : ∃ x, x = b5 := ⟨_, rfl⟩
        refine wpMixT_qL (d := 115) (v := .slice (some ⟨tb, 0, none⟩) 4 4) (opsAt HP.out 27 rfl) rfl (by rw [hsz]; decide) (wantG rfl (opsAt HP.out 26 rfl) rfl s114) HPn.out ⟨K6.out.1.o, K6.out.1.x, K6.out.1.y, K6.out.1.z⟩ (fun W h => by simp [go_sem, s5]) ?_
        intro b5 gD nE sz df
        replace s1 := (nE 1 (by decide)).trans s1
        replace s2 := (nE 2 (by decide)).trans s2
        replace s3 := (nE 3 (by decide)).trans s3
        replace s4 := (nE 4 (by decide)).trans s4
        replace s6 := (nE 6 (by decide)).trans s6
        replace s7 := (nE 7 (by decide)).trans s7
        replace s114 := (nE 114 (by decide)).trans s114
        clear s5
        have s115 := gD
        replace hsz := sz.trans hsz
        replace hdf := df.trans hdf
        clear gD nE sz df
        clear a5
        obtain ⟨a5, rfl⟩ : ∃ x, x = b5 := ⟨_, rfl⟩
        refine wpMixT_qL (d := 116) (v := .slice (some ⟨tb, 0, none⟩) 3 4) (opsAt HP.out 28 rfl) rfl (by rw [hsz]; decide) (wantG rfl (opsAt HP.out 26 rfl) rfl s114) HPn.out ⟨K6.out.1.o, K6.out.1.x, K6.out.1.y, K6.out.1.z⟩ (fun W h => by simp [go_sem, s115]) ?_
        intro b5 gD nE sz df
        replace s1 := (nE 1 (by decide)).trans s1
        replace s2 := (nE 2 (by decide)).trans s2
        replace s3 := (nE 3 (by decide)).trans s3
        replace s4 := (nE 4 (by decide)).trans s4
        replace s6 := (nE 6 (by decide)).trans s6
        replace s7 := (nE 7 (by decide)).trans s7
        replace s114 := (nE 114 (by decide)).trans s114
        clear s115
        have s116 := gD
        replace hsz := sz.trans hsz
        replace hdf := df.trans hdf
        clear gD nE sz df
        clear a5
        obtain ⟨a5, rfl⟩ : ∃ x, x = b5 := ⟨_, rfl⟩
        refine wpMixT_qL (d := 118) (v := .agg #[.int .i64 0, .int .i64 0, .int .i64 1]) (opsAt HP.out 30 rfl) rfl (by rw [hsz]; decide) (wantG rfl (opsAt HP.out 26 rfl) rfl s114) HPn.out ⟨K6.out.1.o, K6.out.1.x, K6.out.1.y, K6.out.1.z⟩ (fun W h => by obtain ⟨⟨o0, o1, o2⟩, ⟨x0, x1, x2⟩, ⟨y0, y1, y2⟩, z0, z1, z2⟩ := HF.out W h; simp [go_sem, s4, z0, z1, z2]) ?_
        intro b5 gD nE sz df
        replace s1 := (nE 1 (by decide)).trans s1
        replace s2 := (nE 2 (by decide)).trans s2
        replace s3 := (nE 3 (by decide)).trans s3
        replace s4 := (nE 4 (by decide)).trans s4
        replace s6 := (nE 6 (by decide)).trans s6
        replace s7 := (nE 7 (by decide)).trans s7
        replace s114 := (nE 114 (by decide)).trans s114
        replace s116 := (nE 116 (by decide)).trans s116
        have s118 := gD
        replace hsz := sz.trans hsz
        replace hdf := df.trans hdf
        clear gD nE sz df
        clear a5
        obtain ⟨a5, rfl⟩ : ∃ x, x = b5 := ⟨_, rfl⟩
        refine wpMixT_qL (d := 119) (v := .agg #[.int .i64 0, .int .i64 1, .int .i64 0]) (opsAt HP.out 31 rfl) rfl (by rw [hsz]; decide) (wantG rfl (opsAt HP.out 26 rfl) rfl s114) HPn.out ⟨K6.out.1.o, K6.out.1.x, K6.out.1.y, K6.out.1.z⟩ (fun W h => by obtain ⟨⟨o0, o1, o2⟩, ⟨x0, x1, x2⟩, ⟨y0, y1, y2⟩, z0, z1, z2⟩ := HF.out W h; simp [go_sem, s3, y0, y1, y2]) ?_
        intro b5 gD nE sz df
        replace s1 := (nE 1 (by decide)).trans s1
        replace s2 := (nE 2 (by decide)).trans s2
        replace s3 := (nE 3 (by decide)).trans s3
        replace s4 := (nE 4 (by decide)).trans s4
        replace s6 := (nE 6 (by decide)).trans s6
        replace s7 := (nE 7 (by decide)).trans s7
        replace s114 := (nE 114 (by decide)).trans s114
        replace s116 := (nE 116 (by decide)).trans s116
        replace s118 := (nE 118 (by decide)).trans s118
        have s119 := gD
        replace hsz := sz.trans hsz
        replace hdf := df.trans hdf
        clear gD nE sz df
        clear a5
        obtain ⟨a5, rfl⟩ : ∃ x, x = b5 := ⟨_, rfl⟩
        refine wpMixT_qL (d := 120) (v := .agg #[.int .i64 0, .int .i64 0, .int .i64 1, .int .i64 0, .int .i64 1, .int .i64 0]) (opsAt HP.out 32 rfl) rfl (by rw [hsz]; decide) (wantG rfl (opsAt HP.out 26 rfl) rfl s114) HPn.out ⟨K6.out.1.o, K6.out.1.x, K6.out.1.y, K6.out.1.z⟩ (fun W h => by simp [go_sem, s118, s119]) ?_
        intro b5 gD nE sz df
        replace s1 := (nE 1 (by decide)).trans s1
        replace s2 := (nE 2 (by decide)).trans s2
        replace s3 := (nE 3 (by decide)).trans s3
        replace s4 := (nE 4 (by decide)).trans s4
        replace s6 := (nE 6 (by decide)).trans s6
        replace s7 := (nE 7 (by decide)).trans s7
        replace s114 := (nE 114 (by decide)).trans s114
        replace s116 := (nE 116 (by decide)).trans s116
        clear s118 s119
        have s120 := gD
        replace hsz := sz.trans hsz
        replace hdf := df.trans hdf
        clear gD nE sz df
        clear a5
        obtain ⟨a5, rfl⟩ : ∃ x, x = b5 := ⟨_, rfl⟩
        refine wpMixT_qL (d := 121) (v := .agg #[.int .i64 0, .int .i64 1, .int .i64 0]) (opsAt HP.out 33 rfl) rfl (by rw [hsz]; decide) (wantG rfl (opsAt HP.out 26 rfl) rfl s114) HPn.out ⟨K6.out.1.o, K6.out.1.x, K6.out.1.y, K6.out.1.z⟩ (fun W h => by obtain ⟨⟨o0, o1, o2⟩, ⟨x0, x1, x2⟩, ⟨y0, y1, y2⟩, z0, z1, z2⟩ := HF.out W h; simp [go_sem, s3, y0, y1, y2]) ?_
        intro b5 gD nE sz df
        replace s1 := (nE 1 (by decide)).trans s1
        replace s2 := (nE 2 (by decide)).trans s2
        replace s3 := (nE 3 (by decide)).trans s3
        replace s4 := (nE 4 (by decide)).trans s4
        replace s6 := (nE 6 (by decide)).trans s6
        replace s7 := (nE 7 (by decide)).trans s7
        replace s114 := (nE 114 (by decide)).trans s114
        replace s116 := (nE 116 (by decide)).trans s116
        replace s120 := (nE 120 (by decide)).trans s120
        have s121 := gD
        replace hsz := sz.trans hsz
        replace hdf := df.trans hdf
        clear gD nE sz df
        clear a5
        obtain ⟨a5, rfl⟩ : ∃ x, x = b5 := ⟨_, rfl⟩
        refine wpMixT_qL (d := 122) (v := .agg #[.int .i64 1, .int .i64 0, .int .i64 0]) (opsAt HP.out 34 rfl) rfl (by rw [hsz]; decide) (wantG rfl (opsAt HP.out 26 rfl) rfl s114) HPn.out ⟨K6.out.1.o, K6.out.1.x, K6.out.1.y, K6.out.1.z⟩ (fun W h => by obtain ⟨⟨o0, o1, o2⟩, ⟨x0, x1, x2⟩, ⟨y0, y1, y2⟩, z0, z1, z2⟩ := HF.out W h; simp [go_sem, s2, x0, x1, x2]) ?_
        intro b5 gD nE sz df
        replace s1 := (nE 1 (by decide)).trans s1
        replace s2 := (nE 2 (by decide)).trans s2
        replace s3 := (nE 3 (by decide)).trans s3
        replace s4 := (nE 4 (by decide)).trans s4
        replace s6 := (nE 6 (by decide)).trans s6
        replace s7 := (nE 7 (by decide)).trans s7
        replace s114 := (nE 114 (by decide)).trans s114
        replace s116 := (nE 116 (by decide)).trans s116
        replace s120 := (nE 120 (by decide)).trans s120
        replace s121 := (nE 121 (by decide)).trans s121
        have s122 := gD
        replace hsz := sz.trans hsz
        replace hdf := df.trans hdf
        clear gD nE sz df
        clear a5
        obtain ⟨a5, rfl⟩ : ∃ x, x = b5 := ⟨_, rfl⟩
        refine wpMixT_qL (d := 123) (v := .agg #[.int .i64 0, .int .i64 1, .int .i64 0, .int .i64 1, .int .i64 0, .int .i64 0]) (opsAt HP.out 35 rfl) rfl (by rw [hsz]; decide) (wantG rfl (opsAt HP.out 26 rfl) rfl s114) HPn.out ⟨K6.out.1.o, K6.out.1.x, K6.out.1.y, K6.out.1.z⟩ (fun W h => by simp [go_sem, s121, s122]) ?_
        intro b5 gD nE sz df
        replace s1 := (nE 1 (by decide)).trans s1
        replace s2 := (nE 2 (by decide)).trans s2
        replace s3 := (nE 3 (by decide)).trans s3
        replace s4 := (nE 4 (by decide)).trans s4
        replace s6 := (nE 6 (by decide)).trans s6
        replace s7 := (nE 7 (by decide)).trans s7
        replace s114 := (nE 114 (by decide)).trans s114
        replace s116 := (nE 116 (by decide)).trans s116
        replace s120 := (nE 120 (by decide)).trans s120
        clear s121 s122
        have s123 := gD
        replace hsz := sz.trans hsz
        replace hdf := df.trans hdf
        clear gD nE sz df
        clear a5
        obtain ⟨a5, rfl⟩ : ∃ x, x = b5 := ⟨_, rfl⟩
        refine wpMixT_qL (d := 124) (v := .agg #[.int .i64 1, .int .i64 0, .int .i64 0]) (opsAt HP.out 36 rfl) rfl (by rw [hsz]; decide) (wantG rfl (opsAt HP.out 26 rfl) rfl s114) HPn.out ⟨K6.out.1.o, K6.out.1.x, K6.out.1.y, K6.out.1.z⟩ (fun W h => by obtain ⟨⟨o0, o1, o2⟩, ⟨x0, x1, x2⟩, ⟨y0, y1, y2⟩, z0, z1, z2⟩ := HF.out W h; simp [go_sem, s2, x0, x1, x2]) ?_
        intro b5 gD nE sz df
        replace s1 := (nE 1 (by decide)).trans s1
        replace s3 := (nE 3 (by decide)).trans s3
        replace s4 := (nE 4 (by decide)).trans s4
        replace s6 := (nE 6 (by decide)).trans s6
        replace s7 := (nE 7 (by decide)).trans s7
        replace s114 := (nE 114 (by decide)).trans s114
        replace s116 := (nE 116 (by decide)).trans s116
        replace s120 := (nE 120 (by decide)).trans s120
        replace s123 := (nE 123 (by decide)).trans s123
        clear s2
        have s124 := gD
        replace hsz := sz.trans hsz
        replace hdf := df.trans hdf
        clear gD nE sz df
        clear a5
        obtain ⟨a5, rfl⟩ : ∃ x, x = b5 := ⟨_, rfl⟩
        refine wpMixT_qL (d := 125) (v := .agg #[.int .i64 0, .int .i64 0, .int .i64 1]) (opsAt HP.out 37 rfl) rfl (by rw [hsz]; decide) (wantG rfl (opsAt HP.out 26 rfl) rfl s114) HPn.out ⟨K6.out.1.o, K6.out.1.x, K6.out.1.y, K6.out.1.z⟩ (fun W h => by obtain ⟨⟨o0, o1, o2⟩, ⟨x0, x1, x2⟩, ⟨y0, y1, y2⟩, z0, z1, z2⟩ := HF.out W h; simp [go_sem, s4, z0, z1, z2]) ?_
        intro b5 gD nE sz df
        replace s1 := (nE 1 (by decide)).trans s1
        replace s3 := (nE 3 (by decide)).trans s3
        replace s4 := (nE 4 (by decide)).trans s4
        replace s6 := (nE 6 (by decide)).trans s6
        replace s7 := (nE 7 (by decide)).trans s7
        replace s114 := (nE 114 (by decide)).trans s114
        replace s116 := (nE 116 (by decide)).trans s116
        replace s120 := (nE 120 (by decide)).trans s120
        replace s123 := (nE 123 (by decide)).trans s123
        replace s124 := (nE 124 (by decide)).trans s124
        have s125 := gD
        replace hsz := sz.trans hsz
        replace hdf := df.trans hdf
        clear gD nE sz df
        clear a5
        obtain ⟨a5, rfl⟩ : ∃ x, x = b5 := ⟨_, rfl⟩
        refine wpMixT_qL (d := 126) (v := .agg #[.int .i64 1, .int .i64 0, .int .i64 0, .int .i64 0, .int .i64 0, .int .i64 1]) (opsAt HP.out 38 rfl) rfl (by rw [hsz]; decide) (wantG rfl (opsAt HP.out 26 rfl) rfl s114) HPn.out ⟨K6.out.1.o, K6.out.1.x, K6.out.1.y, K6.out.1.z⟩ (fun W h => by simp [go_sem, s124, s125]) ?_
        intro b5 gD nE sz df
        replace s1 := (nE 1 (by decide)).trans s1
        replace s3 := (nE 3 (by decide)).trans s3
        replace s4 := (nE 4 (by decide)).trans s4
        replace s6 := (nE 6 (by decide)).trans s6
        replace s7 := (nE 7 (by decide)).trans s7
        replace s114 := (nE 114 (by decide)).trans s114
        replace s116 := (nE 116 (by decide)).trans s116
        replace s120 := (nE 120 (by decide)).trans s120
        replace s123 := (nE 123 (by decide)).trans s123
        clear s124 s125
        have s126 := gD
        replace hsz := sz.trans hsz
        replace hdf := df.trans hdf
        clear gD nE sz df
        clear a5
        obtain ⟨a5, rfl⟩ : ∃ x, x = b5 := ⟨_, rfl⟩
        have HK := K6
        refine wpMixT_either ?_ ?_
        · refine wpMixT_callL (d := 117) (opsAt HP.out 29 rfl) rfl (by rw [hsz]; decide) (wantG rfl (opsAt HP.out 26 rfl) rfl s114) (f := 22) (args := #[.slice (some ⟨tb, 0, none⟩) 3 4]) (by simp [go_sem, s116]) ?_
          refine Calls.mono (sn_border3 K6.out.1) ?_
          rintro e w7 ⟨A8, c8, rfl, hsb, hB⟩
          have K77 := hide (And.intro (K6.out.1.on hB) ((K6.out.2.below hB).more hB.size))
          refine ⟨_, rfl, ⟨K77.out.1.o, K77.out.1.x, K77.out.1.y, K77.out.1.z⟩, ?_⟩
          intro b5 gD nE sz df
          replace s1 := (nE 1 (by decide)).trans s1
          replace s3 := (nE 3 (by decide)).trans s3
          replace s4 := (nE 4 (by decide)).trans s4
          replace s6 := (nE 6 (by decide)).trans s6
          replace s7 := (nE 7 (by decide)).trans s7
          replace s114 := (nE 114 (by decide)).trans s114
          replace s120 := (nE 120 (by decide)).trans s120
          replace s123 := (nE 123 (by decide)).trans s123
          replace s126 := (nE 126 (by decide)).trans s126
          clear s116
          have s117 := gD
          replace hsz := sz.trans hsz
          replace hdf := df.trans hdf
          clear gD nE sz df
          clear a5
          obtain ⟨a5, rfl⟩ : ∃ x, x = b5 := ⟨_, rfl⟩
          refine wpMixT_valL (d := 127) (opsAt HP.out 39 rfl) rfl (by rw [hsz]; decide) (wantG rfl (opsAt HP.out 26 rfl) rfl s114) (v := .slice (some ⟨w7.heap.size, 0, none⟩) 3 3) (w' := w7.alloc (.cells #[.int .i64 0, .int .i64 0, .int .i64 1, .int .i64 0, .int .i64 1, .int .i64 0, .int .i64 0, .int .i64 1, .int .i64 0, .int .i64 1, .int .i64 0, .int .i64 0, .int .i64 1, .int .i64 0, .int .i64 0, .int .i64 0, .int .i64 0, .int .i64 1] 62)) (by simp [go_sem, s120, s123, s126]) ⟨(K77.out.1.on ((Below.refl _ w7).alloc (Nat.le_refl _) _)).o, (K77.out.1.on ((Below.refl _ w7).alloc (Nat.le_refl _) _)).x, (K77.out.1.on ((Below.refl _ w7).alloc (Nat.le_refl _) _)).y, (K77.out.1.on ((Below.refl _ w7).alloc (Nat.le_refl _) _)).z⟩ ?_
          intro b5 gD nE sz df
          replace s1 := (nE 1 (by decide)).trans s1
          replace s3 := (nE 3 (by decide)).trans s3
          replace s4 := (nE 4 (by decide)).trans s4
          replace s6 := (nE 6 (by decide)).trans s6
          replace s7 := (nE 7 (by decide)).trans s7
          replace s114 := (nE 114 (by decide)).trans s114
          replace s117 := (nE 117 (by decide)).trans s117
          clear s120 s123 s126
          have s127 := gD
          replace hsz := sz.trans hsz
          replace hdf := df.trans hdf
          clear gD nE sz df
          clear a5
          obtain ⟨a5, rfl⟩ : ∃ x, x = b5 := ⟨_, rfl⟩
          have hbE : Blk (w7.alloc (.cells #[.int .i64 0, .int .i64 0, .int .i64 1, .int .i64 0, .int .i64 1, .int .i64 0, .int .i64 0, .int .i64 1, .int .i64 0, .int .i64 1, .int .i64 0, .int .i64 0, .int .i64 1, .int .i64 0, .int .i64 0, .int .i64 0, .int .i64 0, .int .i64 1] 62)) w7.heap.size 62 ([(kZ, kY), (kY, kX), (kX, kZ)].flatMap encE).toArray := Blk.new _ _ _
          have hB6 : Below w7.heap.size w7 (w7.alloc (.cells #[.int .i64 0, .int .i64 0, .int .i64 1, .int .i64 0, .int .i64 1, .int .i64 0, .int .i64 0, .int .i64 1, .int .i64 0, .int .i64 1, .int .i64 0, .int .i64 0, .int .i64 1, .int .i64 0, .int .i64 0, .int .i64 0, .int .i64 0, .int .i64 1] 62)) := (Below.refl _ w7).alloc (Nat.le_refl _) _
          exact HT.out a5 _ A8 c8 _ hsz hdf s1 s3 s4 s6 s7 s114 s117 s127 ⟨K77.out.1.on hB6, (K77.out.2.below hB6).more hB6.size⟩ (sn_pairs _ A8 c8 _ _ _ (hsb.below hB6) (Sl.of_blk (B := w7.heap.size + 1) encE_len hbE (by omega)))
        · refine wpMixT_valL (d := 127) (opsAt HP.out 39 rfl) rfl (by rw [hsz]; decide) (wantG rfl (opsAt HP.out 26 rfl) rfl s114) (v := .slice (some ⟨u206.heap.size, 0, none⟩) 3 3) (w' := u206.alloc (.cells #[.int .i64 0, .int .i64 0, .int .i64 1, .int .i64 0, .int .i64 1, .int .i64 0, .int .i64 0, .int .i64 1, .int .i64 0, .int .i64 1, .int .i64 0, .int .i64 0, .int .i64 1, .int .i64 0, .int .i64 0, .int .i64 0, .int .i64 0, .int .i64 1] 62)) (by simp [go_sem, s120, s123, s126]) ⟨(K6.out.1.on ((Below.refl _ u206).alloc (Nat.le_refl _) _)).o, (K6.out.1.on ((Below.refl _ u206).alloc (Nat.le_refl _) _)).x, (K6.out.1.on ((Below.refl _ u206).alloc (Nat.le_refl _) _)).y, (K6.out.1.on ((Below.refl _ u206).alloc (Nat.le_refl _) _)).z⟩ ?_
          intro b5 gD nE sz df
          replace s1 := (nE 1 (by decide)).trans s1
          replace s3 := (nE 3 (by decide)).trans s3
          replace s4 := (nE 4 (by decide)).trans s4
          replace s6 := (nE 6 (by decide)).trans s6
          replace s7 := (nE 7 (by decide)).trans s7
          replace s114 := (nE 114 (by decide)).trans s114
          replace s116 := (nE 116 (by decide)).trans s116
          clear s120 s123 s126
          have s127 := gD
          replace hsz := sz.trans hsz
          replace hdf := df.trans hdf
          clear gD nE sz df
          clear a5
          obtain ⟨a5, rfl⟩ : ∃ x, x = b5 := ⟨_, rfl⟩
          have hbE : Blk (u206.alloc (.cells #[.int .i64 0, .int .i64 0, .int .i64 1, .int .i64 0, .int .i64 1, .int .i64 0, .int .i64 0, .int .i64 1, .int .i64 0, .int .i64 1, .int .i64 0, .int .i64 0, .int .i64 1, .int .i64 0, .int .i64 0, .int .i64 0, .int .i64 0, .int .i64 1] 62)) u206.heap.size 62 ([(kZ, kY), (kY, kX), (kX, kZ)].flatMap encE).toArray := Blk.new _ _ _
          have hB6 : Below u206.heap.size u206 (u206.alloc (.cells #[.int .i64 0, .int .i64 0, .int .i64 1, .int .i64 0, .int .i64 1, .int .i64 0, .int .i64 0, .int .i64 1, .int .i64 0, .int .i64 1, .int .i64 0, .int .i64 0, .int .i64 1, .int .i64 0, .int .i64 0, .int .i64 0, .int .i64 0, .int .i64 1] 62)) := (Below.refl _ u206).alloc (Nat.le_refl _) _
          have K77 := hide (And.intro (K6.out.1.on hB6) ((K6.out.2.below hB6).more hB6.size))
          have HbE := hide hbE
          clear hbE hB6
          refine wpMixT_callL (d := 117) (opsAt HP.out 29 rfl) rfl (by rw [hsz]; decide) (wantG rfl (opsAt HP.out 26 rfl) rfl s114) (f := 22) (args := #[.slice (some ⟨tb, 0, none⟩) 3 4]) (by simp [go_sem, s116]) ?_
          refine Calls.mono (sn_border3 K77.out.1) ?_
          rintro e w7 ⟨A8, c8, rfl, hsb, hB⟩
          refine ⟨_, rfl, ⟨(K77.out.1.on hB).o, (K77.out.1.on hB).x, (K77.out.1.on hB).y, (K77.out.1.on hB).z⟩, ?_⟩
          intro b5 gD nE sz df
          replace s1 := (nE 1 (by decide)).trans s1
          replace s3 := (nE 3 (by decide)).trans s3
          replace s4 := (nE 4 (by decide)).trans s4
          replace s6 := (nE 6 (by decide)).trans s6
          replace s7 := (nE 7 (by decide)).trans s7
          replace s114 := (nE 114 (by decide)).trans s114
          replace s127 := (nE 127 (by decide)).trans s127
          clear s116
          have s117 := gD
          replace hsz := sz.trans hsz
          replace hdf := df.trans hdf
          clear gD nE sz df
          clear a5
          obtain ⟨a5, rfl⟩ : ∃ x, x = b5 := ⟨_, rfl⟩
          exact HT.out a5 _ A8 c8 _ hsz hdf s1 s3 s4 s6 s7 s114 s117 s127 ⟨K77.out.1.on hB, (K77.out.2.below hB).more hB.size⟩ (sn_pairs _ A8 c8 _ _ _ hsb (Sl.of_blk (B := u206.heap.size + 1) encE_len (HbE.out.below hB HbE.out.lt) (by omega)))
end Go.Proofs.YtelfnmohpjkilaaGreatDoor
