/- WnD. -/
import Derived.WalkKit
import Derived.WalkSpells
import Derived.WalkLawsBesides
import Derived.Laws.OwnMore
import Derived.Deep.AppendLies
import Derived.Deep.Draws
import Derived.Maps.AppendAt
import Derived.OwnWalk
import Derived.Sort.Grow
import Derived.Shelf.GgSortFunc.RowK
import Derived.RangeFuncNested
import Derived.RangeFuncBox
import Derived.Test.YtelfnmohpjkilaaGreatDoorRows
import Derived.Handy
import Derived.Maps.Own
import Derived.Maps.Views
import Derived.DeepKeys4
import Derived.DeepKeys
import Derived.Laws.StructEq
import Derived.Deep.QuietTactic
import Derived.BigQuiet
import Derived.LoopN
import Derived.Laws.EntriesVeiled
import Derived.Shelf.SlSortCmp.QuietGrown
import Derived.Deep.RegionHeld3
import Derived.Deep.DrawnRows
import Derived.Sort.Statements
import Derived.Shelf.SlSortCmp.NoneTotal
import Derived.OrdersHeld
import Derived.OrdersIn
import Derived.RangeFuncCalls
import Derived.OwnWalkIn
import Derived.Deep.CutBlock
import Derived.Deep.DeepCutAuto
import Derived.Maps.OwnSet
import Derived.Maps.RangeWalk
import Derived.WideKeyEntry
import Derived.IntWalk
import Derived.Deep.MidRow
import Derived.StillTailTactics
import Derived.Shelf.RegionOpen
import Derived.Deep.WholeRow
import Derived.Lib.Strings
import Derived.Lib.Slices
import Derived.Lib.Walk
import Derived.Lib.TrimByte
import Derived.Laws.Strings3
import Derived.Laws.Bits64b
import Derived.Laws.BytesArg
import Derived.RangeFuncBound
import Derived.RangeFuncLeaves
import Derived.TacticsInMore
import Derived.LoopNIn
import Derived.LoopIn
import Derived.Test.YtelfnmohpjkilaaGreatDoorQ25
import Derived.Test.YtelfnmohpjkilaaGreatDoorQ27
namespace Go.Proofs.YtelfnmohpjkilaaGreatDoor
open Go.RowKit Go.Sort
def detV (t : Tri) : Int :=
  (t.1.1 * (t.2.1.2.1 * t.2.2.2.2) + t.1.2.1 * (t.2.1.2.2 * t.2.2.1) + t.1.2.2 * (t.2.1.1 * t.2.2.2.1)) - (t.1.1 * (t.2.1.2.2 * t.2.2.2.1) + t.1.2.1 * (t.2.1.1 * t.2.2.2.2) + t.1.2.2 * (t.2.1.2.1 * t.2.2.1))
def vol6 : List Tri → Int
  | [] => 0
  | t :: l => detV t + vol6 l
theorem vol6_app (l m : List Tri) : vol6 (l ++ m) = vol6 l + vol6 m := by
  induction l with
  | nil => simp [vol6]
  | cons t l ih => rw [List.cons_append, vol6, vol6, ih]; omega
theorem vol6_snoc (ts : List Tri) (k : Nat) (t : Tri) (h : ts[k]? = some t) : vol6 (ts.take (k + 1)) = vol6 (ts.take k) + detV t := by
  rw [List.take_add_one, h, vol6_app]
  simp [vol6]
def tri3W (x y z : Int) (j : Nat) : Int := if j = 0 then x else if j = 1 then y else z
def sum3 (x y z : Int) (j : Nat) : Int := if j = 0 then 0 else if j = 1 then x else if j = 2 then x + y else x + y + z
theorem sum3_succ (x y z : Int) {j : Nat} (h : j < 3) : sum3 x y z (j + 1) = sum3 x y z j + tri3W x y z j := by
  rcases (show j = 0 ∨ j = 1 ∨ j = 2 by omega) with rfl | rfl | rfl <;> simp [sum3, tri3W]
/-- The greatest product. -/
def Q63 : Nat := 9223372036854775808 * (9223372036854775808 * 9223372036854775808)
theorem q63_small {n : Nat} (h : n ≤ 1000000) : n * Q63 < 256 ^ 40 := Nat.lt_of_le_of_lt (Nat.mul_le_mul_right _ h) (by decide)
theorem prod_le {a b c : Int} (ha : I64 a) (hb : I64 b) (hc : I64 c) : (a * (b * c)).natAbs ≤ Q63 := abs_mul_le ha.abs (abs_mul_le hb.abs hc.abs)
theorem add_le {x y : Int} {n m Q : Nat} (hx : x.natAbs ≤ n * Q) (hy : y.natAbs ≤ Q) (hm : m = n + 1) : (x + y).natAbs ≤ m * Q := by
  rw [hm, Nat.add_mul, Nat.one_mul]
  exact Nat.le_trans (Int.natAbs_add_le x y) (Nat.add_le_add hx hy)
theorem sub_le {x y : Int} {n m Q : Nat} (hx : x.natAbs ≤ n * Q) (hy : y.natAbs ≤ Q) (hm : m = n + 1) : (x - y).natAbs ≤ m * Q := by
  rw [Int.sub_eq_add_neg]
  exact add_le hx (by rw [Int.natAbs_neg]; exact hy) hm
theorem fits_I64 {n : Int} (h : fits n) : I64 n := ⟨h.1, by have := h.2; omega⟩
/-- What a round of Volume6 keeps beside the sum. -/
structure VolS (w0 w : World) (rb ga gb gc : Nat) (C0 C1 C2 : Array Value) : Prop where
  ret : Blk w rb 46 #[.bool false, .string ⟨#[]⟩]
  pa : Blk w ga 41 C0
  pb : Blk w gb 41 C1
  pc : Blk w gc 41 C2
  bel : Below w0.heap.size w0 w
theorem VolS.on {w0 w w' : World} {rb ga gb gc : Nat} {C0 C1 C2 : Array Value} (h : VolS w0 w rb ga gb gc C0 C1 C2) (hb : Below w.heap.size w w') : VolS w0 w' rb ga gb gc C0 C1 C2 :=
  ⟨h.ret.below hb h.ret.lt, h.pa.below hb h.pa.lt, h.pb.below hb h.pb.lt, h.pc.below hb h.pc.lt, h.bel.trans (hb.mono h.bel.size)⟩
theorem VolS.put {w0 w : World} {rb ga gb gc sb : Nat} {C0 C1 C2 : Array Value} (h : VolS w0 w rb ga gb gc C0 C1 C2) (h1 : rb ≠ sb) (h2 : ga ≠ sb) (h3 : gb ≠ sb) (h4 : gc ≠ sb) (h5 : w0.heap.size ≤ sb) (x y : Value) : VolS w0 ((w.setCell ⟨sb, 0, none⟩ x).setCell ⟨sb, 1, none⟩ y) rb ga gb gc C0 C1 C2 :=
  ⟨(h.ret.far h1 _).far h1 _, (h.pa.far h2 _).far h2 _, (h.pb.far h3 _).far h3 _, (h.pc.far h4 _).far h4 _, (h.bel.setCell h5 _).setCell h5 _⟩
theorem Blk.duo4 {W : World} {g : Nat} {t : TypeId} {a b : Value} (h : Blk W g t #[a, b]) : W.cell? ⟨g, 0, none⟩ = some a ∧ W.cell? ⟨g, 1, none⟩ = some b := ⟨h.cell 0, h.cell 1⟩
theorem el3 {W : World} {g : Nat} {b0 b1 b2 : Bool} {s0 s1 s2 : ByteArray} {x y z : Int} (h : Blk W g 46 #[.bool b0, .string s0, .bool b1, .string s1, .bool b2, .string s2])
    (h0 : WideN (.agg #[.bool b0, .string s0]) x) (h1 : WideN (.agg #[.bool b1, .string s1]) y) (h2 : WideN (.agg #[.bool b2, .string s2]) z) {j : Nat} (hj : j < 3) :
    ∃ b s, W.cell? ⟨g, j * 2, none⟩ = some (.bool b) ∧ W.cell? ⟨g, j * 2 + 1, none⟩ = some (.string s) ∧ WideN (.agg #[.bool b, .string s]) (tri3W x y z j) := by
  rcases (show j = 0 ∨ j = 1 ∨ j = 2 by omega) with rfl | rfl | rfl
  · exact ⟨b0, s0, h.cell 0, h.cell 1, h0⟩
  · exact ⟨b1, s1, h.cell 2, h.cell 3, h1⟩
  · exact ⟨b2, s2, h.cell 4, h.cell 5, h2⟩
theorem tri3_le {x y z : Int} {Q : Nat} (hx : x.natAbs ≤ Q) (hy : y.natAbs ≤ Q) (hz : z.natAbs ≤ Q) (j : Nat) : (tri3W x y z j).natAbs ≤ Q := by
  unfold tri3W
  split
  · exact hx
  · split
    · exact hy
    · exact hz
set_option maxRecDepth 100000 in
set_option maxHeartbeats 32000000 in
theorem volume4_any (A : Option Addr) (c : Nat) (ts : List Tri) (w : World) (hs : Sl encT 9 w w.heap.size A ts) (hl : ts.length ≤ 100000) (hf : ∀ t ∈ ts, fitsT t) :
    Calls Tryz.prog 26 #[.slice A ts.length c] w fun e w' => ∃ v, e = .returned v ∧ WideN v (vol6 ts) ∧ Below w.heap.size w w' := by
  obtain ⟨M, hM⟩ : ∃ n, n = ts.length := ⟨_, rfl⟩
  rw [← hM] at hl ⊢
  have HS := hide (And.intro hs (And.intro hf hM))
  clear hs hf hM
  go_enter Tryz.func26, Tryz.ntmps26
  go_upto_region 3 with fail
  obtain ⟨X, hX⟩ : ∃ X, X = (w.alloc (.cells #[.bool false, .string ⟨#[]⟩] 46)).alloc (.cells #[.bool false, .string ⟨#[]⟩] 46) := ⟨_, rfl⟩
  rw [← hX]
  have hr : Blk X w.heap.size 46 #[.bool false, .string ⟨#[]⟩] := by rw [hX]; exact (Blk.new _ _ _).alloc _
  have hb : Blk X (w.heap.size + 1) 46 #[.bool false, .string ⟨#[]⟩] := by rw [hX]; exact Blk.new' _ _ _ _ (by simp)
  have hBX : Below w.heap.size w X := by rw [hX]; exact ((Below.refl _ w).alloc (Nat.le_refl _) _).alloc (by simp) _
  have hW0 : WideN (.agg #[.bool false, .string ⟨#[]⟩]) 0 := ⟨false, [], rfl, (fun _ h => absurd h List.not_mem_nil), rfl, rfl, (fun _ => rfl)⟩
  obtain ⟨rb, hrb⟩ : ∃ b, b = w.heap.size := ⟨_, rfl⟩
  obtain ⟨sb, hsb⟩ : ∃ b, b = w.heap.size + 1 := ⟨_, rfl⟩
  rw [← hsb] at hb ⊢
  rw [← hrb] at hr ⊢
  obtain ⟨Q, hQ⟩ : ∃ Q, Q = Q63 := ⟨_, rfl⟩
  have HX := hide (And.intro hr (And.intro hb (And.intro hBX (And.intro hrb (And.intro hsb (And.intro hW0 hQ))))))
  clear hX hr hb hBX hrb hsb hW0 hQ
  go_wp2_with fail
  go_loopw [16] (fun iv wr => ∃ (k : Nat) (b : Bool) (s : ByteArray), k ≤ M ∧ iv = .int .i64 k ∧ Blk wr sb 46 #[.bool b, .string s] ∧ WideN (.agg #[.bool b, .string s]) (vol6 (ts.take k)) ∧ (vol6 (ts.take k)).natAbs ≤ 6 * k * Q ∧ Blk wr rb 46 #[.bool false, .string ⟨#[]⟩] ∧ Below w.heap.size w wr) (fun iv _ => M - (intOf iv).toNat)
  case atStart => exact ⟨0, false, ⟨#[]⟩, by omega, rfl, HX.out.2.1, HX.out.2.2.2.2.2.1, by simp [vol6], HX.out.1, HX.out.2.2.1⟩
  case round =>
    obtain ⟨k, b0, s0, hk, rfl, hb, hW, hq, hr, hB⟩ := hrel
    obtain ⟨V, rfl⟩ : ∃ V, V = wr := ⟨_, rfl⟩
    by_cases hlt : k < M
    · obtain ⟨t, ht⟩ : ∃ t, ts[k]? = some t := ⟨_, List.getElem?_eq_getElem (by rw [← HS.out.2.2]; exact hlt)⟩
      have i1 : (k : Int) < (M : Int) := by omega
      obtain ⟨b, o, hA, hbb, g0, g1, g2, g3, g4, g5, g6, g7, g8⟩ := (HS.out.1.below hB).tri ht
      subst hA
      have hft := HS.out.2.1 t (List.mem_of_getElem? ht)
      have hsn := vol6_snoc ts k t ht
      obtain ⟨S0, hS0⟩ : ∃ N, N = vol6 (ts.take k) := ⟨_, rfl⟩
      rw [← hS0] at hW hq hsn
      have HK := hide (And.intro hb (And.intro hW (And.intro hq (And.intro hr (And.intro hB (And.intro hft hsn))))))
      clear hb hW hq hr hB hft hsn ht hS0
      go_upto_region 6 with fail
      obtain ⟨Y, hY⟩ : ∃ Y, Y = V.alloc (.cells #[.int .i64 t.1.1, .int .i64 t.1.2.1, .int .i64 t.1.2.2, .int .i64 t.2.1.1, .int .i64 t.2.1.2.1, .int .i64 t.2.1.2.2, .int .i64 t.2.2.1, .int .i64 t.2.2.2.1, .int .i64 t.2.2.2.2] 58) := ⟨_, rfl⟩
      rw [← hY]
      have hbY : Blk Y V.heap.size 58 (encT t).toArray := by rw [hY]; exact Blk.new _ _ _
      have hBY : Below V.heap.size V Y := by rw [hY]; exact (Below.refl _ V).alloc (Nat.le_refl _) _
      obtain ⟨tb, htb⟩ : ∃ b, b = V.heap.size := ⟨_, rfl⟩
      rw [← htb] at hbY ⊢
      obtain ⟨⟨p1, p2, p3⟩, ⟨q1, q2, q3⟩, ⟨r1, r2, r3⟩⟩ := t
      dsimp only at g0 g1 g2 g3 g4 g5 g6 g7 g8
      clear g0 g1 g2 g3 g4 g5 g6 g7 g8
      have HY := hide (And.intro hbY (And.intro hBY htb))
      clear hbY hBY htb hY
      obtain ⟨C0, hC0⟩ : ∃ C : Array Value, C = #[.int .i64 p1, .int .i64 p2, .int .i64 p3] := ⟨_, rfl⟩
      obtain ⟨C1, hC1⟩ : ∃ C : Array Value, C = #[.int .i64 q1, .int .i64 q2, .int .i64 q3] := ⟨_, rfl⟩
      obtain ⟨C2, hC2⟩ : ∃ C : Array Value, C = #[.int .i64 r1, .int .i64 r2, .int .i64 r3] := ⟨_, rfl⟩
      have HCC := hide (And.intro hC0 (And.intro hC1 hC2))
      clear hC0 hC1 hC2
      go_cut [7, 8, 9] (fun va vb vc wx => ∃ (ga gb gc : Nat), va = .pointer (some ⟨ga, 0, none⟩) ∧ vb = .pointer (some ⟨gb, 0, none⟩) ∧ vc = .pointer (some ⟨gc, 0, none⟩) ∧ Blk wx ga 41 C0 ∧ Blk wx gb 41 C1 ∧ Blk wx gc 41 C2 ∧ (Y.heap.size ≤ ga ∧ Y.heap.size ≤ gb ∧ Y.heap.size ≤ gc) ∧ Below Y.heap.size Y wx)
      case first =>
        obtain ⟨hC0, hC1, hC2⟩ := HCC.out
        subst hC0 hC1 hC2
        have hSt : ∀ W, Blk W tb 58 (encT ((p1, p2, p3), (q1, q2, q3), (r1, r2, r3))).toArray → (W.cell? ⟨tb, 0, none⟩ = some (.int .i64 p1) ∧ W.cell? ⟨tb, 1, none⟩ = some (.int .i64 p2) ∧ W.cell? ⟨tb, 2, none⟩ = some (.int .i64 p3)) ∧ (W.cell? ⟨tb, 3, none⟩ = some (.int .i64 q1) ∧ W.cell? ⟨tb, 4, none⟩ = some (.int .i64 q2) ∧ W.cell? ⟨tb, 5, none⟩ = some (.int .i64 q3)) ∧ W.cell? ⟨tb, 6, none⟩ = some (.int .i64 r1) ∧ W.cell? ⟨tb, 7, none⟩ = some (.int .i64 r2) ∧ W.cell? ⟨tb, 8, none⟩ = some (.int .i64 r3) := fun W h => ⟨⟨h.cell 0, h.cell 1, h.cell 2⟩, ⟨h.cell 3, h.cell 4, h.cell 5⟩, h.cell 6, h.cell 7, h.cell 8⟩
        have HSt := hide hSt
        clear hSt
        have HQ : Blk Y.drew tb 58 (encT ((p1, p2, p3), (q1, q2, q3), (r1, r2, r3))).toArray := HY.out.1
        have HQ := hide HQ
        refine wp_region_tree3 (fun W => Blk W tb 58 (encT ((p1, p2, p3), (q1, q2, q3), (r1, r2, r3))).toArray) [0, 1, 2, 3, 4, 5] (.q 0 (.q 1 (.q 2 (.q 3 (.q 4 (.q 5 (.three 6 (.two 7 (.one 8 (.one 9 (.one 10 (.one 11 .nil)))) 8 (.one 7 (.one 9 (.one 10 (.one 11 .nil))))) 7 (.two 6 (.one 8 (.one 9 (.one 10 (.one 11 .nil)))) 8 (.one 6 (.one 9 (.one 10 (.one 11 .nil))))) 8 (.two 6 (.one 7 (.one 9 (.one 10 (.one 11 .nil)))) 7 (.one 6 (.one 9 (.one 10 (.one 11 .nil)))))))))))) mixed_ok (by kernel_rfl) ?_
        refine wpMixU_q (v := .pointer (some ⟨tb, 0, none⟩)) rfl (fun _ _ _ h => h) HQ.out ⟨rfl, fun _ _ => by simp [go_sem]⟩ ?_
        refine wpMixU_q (v := .agg #[.int .i64 p1, .int .i64 p2, .int .i64 p3]) rfl (fun _ _ _ h => h) HQ.out ⟨rfl, fun W h => by obtain ⟨⟨a0, a1, a2⟩, _, _⟩ := HSt.out W h; simp [go_sem, a0, a1, a2]⟩ ?_
        refine wpMixU_q (v := .pointer (some ⟨tb, 3, none⟩)) rfl (fun _ _ _ h => h) HQ.out ⟨rfl, fun _ _ => by simp [go_sem]⟩ ?_
        refine wpMixU_q (v := .agg #[.int .i64 q1, .int .i64 q2, .int .i64 q3]) rfl (fun _ _ _ h => h) HQ.out ⟨rfl, fun W h => by obtain ⟨_, ⟨a0, a1, a2⟩, _⟩ := HSt.out W h; simp [go_sem, a0, a1, a2]⟩ ?_
        refine wpMixU_q (v := .pointer (some ⟨tb, 6, none⟩)) rfl (fun _ _ _ h => h) HQ.out ⟨rfl, fun _ _ => by simp [go_sem]⟩ ?_
        refine wpMixU_q (v := .agg #[.int .i64 r1, .int .i64 r2, .int .i64 r3]) rfl (fun _ _ _ h => h) HQ.out ⟨rfl, fun W h => by obtain ⟨_, _, a0, a1, a2⟩ := HSt.out W h; simp [go_sem, a0, a1, a2]⟩ ?_
        simp only [List.getElem_toArray, List.getElem_cons_succ, List.getElem_cons_zero]
        obtain ⟨Z, hZ⟩ : ∃ Z, Z = Y.drew := ⟨_, rfl⟩
        rw [← hZ]
        have hBZ : Below Y.heap.size Y Z := by rw [hZ]; exact (Below.refl _ Y).drew
        have hzZ : Z.heap.size = Y.heap.size := by rw [hZ]; rfl
        have htY : tb < Y.heap.size := HY.out.1.lt
        have hQZ : Blk Z tb 58 (encT ((p1, p2, p3), (q1, q2, q3), (r1, r2, r3))).toArray := by rw [hZ]; exact HQ.out
        have HZ := hide (And.intro hBZ (And.intro hzZ (And.intro htY hQZ)))
        clear hZ hBZ hzZ htY hQZ HQ
        refine wpMixU_three rfl rfl rfl ?_ ?_ ?_
        · go_wp2_with fail
          refine ⟨fun _ => HZ.out.2.2.2.alloc _, ?_⟩
          refine wpMixU_two rfl rfl ?_ ?_
          · go_wp2_with fail
            refine ⟨fun _ => (HZ.out.2.2.2.alloc _).alloc _, ?_⟩
            refine wpMixU_one rfl ?_
            go_wp2_with fail
            refine ⟨fun _ => ((HZ.out.2.2.2.alloc _).alloc _).alloc _, ?_⟩
            obtain ⟨Z3, hZ3⟩ : ∃ W, W = ((Z.alloc (.cells #[.int .i64 0, .int .i64 0, .int .i64 0] 41)).alloc (.cells #[.int .i64 0, .int .i64 0, .int .i64 0] 41)).alloc (.cells #[.int .i64 0, .int .i64 0, .int .i64 0] 41) := ⟨_, rfl⟩
            rw [← hZ3]
            have hga : Blk Z3 (Z.heap.size) 41 #[.int .i64 0, .int .i64 0, .int .i64 0] := by rw [hZ3]; exact ((Blk.new _ _ _).alloc _).alloc _
            have hgb : Blk Z3 (Z.heap.size + 1) 41 #[.int .i64 0, .int .i64 0, .int .i64 0] := by rw [hZ3]; exact (Blk.new' _ _ _ _ (by simp)).alloc _
            have hgc : Blk Z3 (Z.heap.size + 1 + 1) 41 #[.int .i64 0, .int .i64 0, .int .i64 0] := by rw [hZ3]; exact Blk.new' _ _ _ _ (by simp)
            have hT3 : Blk Z3 tb 58 (encT ((p1, p2, p3), (q1, q2, q3), (r1, r2, r3))).toArray := by rw [hZ3]; exact ((HZ.out.2.2.2.alloc _).alloc _).alloc _
            have hB3 : Below Y.heap.size Y Z3 := by rw [hZ3]; exact ((HZ.out.1.alloc (by rw [HZ.out.2.1]; exact Nat.le_refl _) _).alloc (by simp; have := HZ.out.2.1; omega) _).alloc (by simp; have := HZ.out.2.1; omega) _
            obtain ⟨gc, egc⟩ : ∃ g, g = Z.heap.size + 1 + 1 := ⟨_, rfl⟩
            rw [← egc] at hgc ⊢
            obtain ⟨gb, egb⟩ : ∃ g, g = Z.heap.size + 1 := ⟨_, rfl⟩
            rw [← egb] at hgb ⊢
            obtain ⟨ga, ega⟩ : ∃ g, g = Z.heap.size := ⟨_, rfl⟩
            rw [← ega] at hga ⊢
            have HG := hide (show (Y.heap.size ≤ ga ∧ Y.heap.size ≤ gb ∧ Y.heap.size ≤ gc) ∧ (ga ≠ gb ∧ ga ≠ gc ∧ gb ≠ gc) ∧ tb < Y.heap.size by have := HZ.out.2.1; have := HZ.out.2.2.1; omega)
            clear ega egb egc hZ3
            have H3 := hide (And.intro hga (And.intro hgb (And.intro hgc (And.intro hT3 hB3))))
            clear hga hgb hgc hT3 hB3
            refine wpMixU_one rfl ?_
            have hga := H3.out.1
            obtain ⟨r0, r1, r2⟩ := hga.three
            have f0 := hga.frozen 0
            have f1 := hga.frozen 1
            have f2 := hga.frozen 2
            have hlt := hga.lt
            clear hga
            go_wp2_with fail
            clear r0 r1 r2 f0 f1 f2 hlt
            obtain ⟨Z4, hZ4⟩ : ∃ W, W = ((Z3.setCell ⟨ga, 0, none⟩ (.int .i64 p1)).setCell ⟨ga, 1, none⟩ (.int .i64 p2)).setCell ⟨ga, 2, none⟩ (.int .i64 p3) := ⟨_, rfl⟩
            have H4 := hide (show Blk Z4 ga 41 #[.int .i64 p1, .int .i64 p2, .int .i64 p3] ∧ Blk Z4 gb 41 #[.int .i64 0, .int .i64 0, .int .i64 0] ∧ Blk Z4 gc 41 #[.int .i64 0, .int .i64 0, .int .i64 0] ∧ Blk Z4 tb 58 (encT ((p1, p2, p3), (q1, q2, q3), (r1, r2, r3))).toArray ∧ Below Y.heap.size Y Z4 by rw [hZ4]; exact ⟨H3.out.1.set3 _ _ _, H3.out.2.1.far3 (by have := HG.out; omega) _ _ _, H3.out.2.2.1.far3 (by have := HG.out; omega) _ _ _, H3.out.2.2.2.1.far3 (by have := HG.out; omega) _ _ _, ((H3.out.2.2.2.2.setCell (by have := HG.out; dsimp only; omega) _).setCell (by have := HG.out; dsimp only; omega) _).setCell (by have := HG.out; dsimp only; omega) _⟩)
            rw [← hZ4]
            clear hZ4
            refine ⟨fun _ => H4.out.2.2.2.1, ?_⟩
            refine wpMixU_one rfl ?_
            have hgb := H4.out.2.1
            obtain ⟨r0, r1, r2⟩ := hgb.three
            have f0 := hgb.frozen 0
            have f1 := hgb.frozen 1
            have f2 := hgb.frozen 2
            have hlt := hgb.lt
            clear hgb
            go_wp2_with fail
            clear r0 r1 r2 f0 f1 f2 hlt
            obtain ⟨Z5, hZ5⟩ : ∃ W, W = ((Z4.setCell ⟨gb, 0, none⟩ (.int .i64 q1)).setCell ⟨gb, 1, none⟩ (.int .i64 q2)).setCell ⟨gb, 2, none⟩ (.int .i64 q3) := ⟨_, rfl⟩
            have H5 := hide (show Blk Z5 ga 41 #[.int .i64 p1, .int .i64 p2, .int .i64 p3] ∧ Blk Z5 gb 41 #[.int .i64 q1, .int .i64 q2, .int .i64 q3] ∧ Blk Z5 gc 41 #[.int .i64 0, .int .i64 0, .int .i64 0] ∧ Blk Z5 tb 58 (encT ((p1, p2, p3), (q1, q2, q3), (r1, r2, r3))).toArray ∧ Below Y.heap.size Y Z5 by rw [hZ5]; exact ⟨H4.out.1.far3 (by have := HG.out; omega) _ _ _, H4.out.2.1.set3 _ _ _, H4.out.2.2.1.far3 (by have := HG.out; omega) _ _ _, H4.out.2.2.2.1.far3 (by have := HG.out; omega) _ _ _, ((H4.out.2.2.2.2.setCell (by have := HG.out; dsimp only; omega) _).setCell (by have := HG.out; dsimp only; omega) _).setCell (by have := HG.out; dsimp only; omega) _⟩)
            rw [← hZ5]
            clear hZ5
            refine ⟨fun _ => H5.out.2.2.2.1, ?_⟩
            refine wpMixU_one rfl ?_
            have hgc := H5.out.2.2.1
            obtain ⟨r0, r1, r2⟩ := hgc.three
            have f0 := hgc.frozen 0
            have f1 := hgc.frozen 1
            have f2 := hgc.frozen 2
            have hlt := hgc.lt
            clear hgc
            go_wp2_with fail
            clear r0 r1 r2 f0 f1 f2 hlt
            obtain ⟨Z6, hZ6⟩ : ∃ W, W = ((Z5.setCell ⟨gc, 0, none⟩ (.int .i64 r1)).setCell ⟨gc, 1, none⟩ (.int .i64 r2)).setCell ⟨gc, 2, none⟩ (.int .i64 r3) := ⟨_, rfl⟩
            have H6 := hide (show Blk Z6 ga 41 #[.int .i64 p1, .int .i64 p2, .int .i64 p3] ∧ Blk Z6 gb 41 #[.int .i64 q1, .int .i64 q2, .int .i64 q3] ∧ Blk Z6 gc 41 #[.int .i64 r1, .int .i64 r2, .int .i64 r3] ∧ Blk Z6 tb 58 (encT ((p1, p2, p3), (q1, q2, q3), (r1, r2, r3))).toArray ∧ Below Y.heap.size Y Z6 by rw [hZ6]; exact ⟨H5.out.1.far3 (by have := HG.out; omega) _ _ _, H5.out.2.1.far3 (by have := HG.out; omega) _ _ _, H5.out.2.2.1.set3 _ _ _, H5.out.2.2.2.1.far3 (by have := HG.out; omega) _ _ _, ((H5.out.2.2.2.2.setCell (by have := HG.out; dsimp only; omega) _).setCell (by have := HG.out; dsimp only; omega) _).setCell (by have := HG.out; dsimp only; omega) _⟩)
            rw [← hZ6]
            clear hZ6
            refine ⟨fun _ => H6.out.2.2.2.1, wpMixU_nil ?_⟩
            go_wp2_with fail
            go_meet
            case rel => exact ⟨ga, gb, gc, rfl, rfl, rfl, H6.out.1, H6.out.2.1, H6.out.2.2.1, HG.out.1, H6.out.2.2.2.2⟩
          · go_wp2_with fail
            refine ⟨fun _ => (HZ.out.2.2.2.alloc _).alloc _, ?_⟩
            refine wpMixU_one rfl ?_
            go_wp2_with fail
            refine ⟨fun _ => ((HZ.out.2.2.2.alloc _).alloc _).alloc _, ?_⟩
            obtain ⟨Z3, hZ3⟩ : ∃ W, W = ((Z.alloc (.cells #[.int .i64 0, .int .i64 0, .int .i64 0] 41)).alloc (.cells #[.int .i64 0, .int .i64 0, .int .i64 0] 41)).alloc (.cells #[.int .i64 0, .int .i64 0, .int .i64 0] 41) := ⟨_, rfl⟩
            rw [← hZ3]
            have hga : Blk Z3 (Z.heap.size) 41 #[.int .i64 0, .int .i64 0, .int .i64 0] := by rw [hZ3]; exact ((Blk.new _ _ _).alloc _).alloc _
            have hgc : Blk Z3 (Z.heap.size + 1) 41 #[.int .i64 0, .int .i64 0, .int .i64 0] := by rw [hZ3]; exact (Blk.new' _ _ _ _ (by simp)).alloc _
            have hgb : Blk Z3 (Z.heap.size + 1 + 1) 41 #[.int .i64 0, .int .i64 0, .int .i64 0] := by rw [hZ3]; exact Blk.new' _ _ _ _ (by simp)
            have hT3 : Blk Z3 tb 58 (encT ((p1, p2, p3), (q1, q2, q3), (r1, r2, r3))).toArray := by rw [hZ3]; exact ((HZ.out.2.2.2.alloc _).alloc _).alloc _
            have hB3 : Below Y.heap.size Y Z3 := by rw [hZ3]; exact ((HZ.out.1.alloc (by rw [HZ.out.2.1]; exact Nat.le_refl _) _).alloc (by simp; have := HZ.out.2.1; omega) _).alloc (by simp; have := HZ.out.2.1; omega) _
            obtain ⟨gb, egb⟩ : ∃ g, g = Z.heap.size + 1 + 1 := ⟨_, rfl⟩
            rw [← egb] at hgb ⊢
            obtain ⟨gc, egc⟩ : ∃ g, g = Z.heap.size + 1 := ⟨_, rfl⟩
            rw [← egc] at hgc ⊢
            obtain ⟨ga, ega⟩ : ∃ g, g = Z.heap.size := ⟨_, rfl⟩
            rw [← ega] at hga ⊢
            have HG := hide (show (Y.heap.size ≤ ga ∧ Y.heap.size ≤ gb ∧ Y.heap.size ≤ gc) ∧ (ga ≠ gb ∧ ga ≠ gc ∧ gb ≠ gc) ∧ tb < Y.heap.size by have := HZ.out.2.1; have := HZ.out.2.2.1; omega)
            clear ega egb egc hZ3
            have H3 := hide (And.intro hga (And.intro hgb (And.intro hgc (And.intro hT3 hB3))))
            clear hga hgb hgc hT3 hB3
            refine wpMixU_one rfl ?_
            have hga := H3.out.1
            obtain ⟨r0, r1, r2⟩ := hga.three
            have f0 := hga.frozen 0
            have f1 := hga.frozen 1
            have f2 := hga.frozen 2
            have hlt := hga.lt
            clear hga
            go_wp2_with fail
            clear r0 r1 r2 f0 f1 f2 hlt
            obtain ⟨Z4, hZ4⟩ : ∃ W, W = ((Z3.setCell ⟨ga, 0, none⟩ (.int .i64 p1)).setCell ⟨ga, 1, none⟩ (.int .i64 p2)).setCell ⟨ga, 2, none⟩ (.int .i64 p3) := ⟨_, rfl⟩
            have H4 := hide (show Blk Z4 ga 41 #[.int .i64 p1, .int .i64 p2, .int .i64 p3] ∧ Blk Z4 gb 41 #[.int .i64 0, .int .i64 0, .int .i64 0] ∧ Blk Z4 gc 41 #[.int .i64 0, .int .i64 0, .int .i64 0] ∧ Blk Z4 tb 58 (encT ((p1, p2, p3), (q1, q2, q3), (r1, r2, r3))).toArray ∧ Below Y.heap.size Y Z4 by rw [hZ4]; exact ⟨H3.out.1.set3 _ _ _, H3.out.2.1.far3 (by have := HG.out; omega) _ _ _, H3.out.2.2.1.far3 (by have := HG.out; omega) _ _ _, H3.out.2.2.2.1.far3 (by have := HG.out; omega) _ _ _, ((H3.out.2.2.2.2.setCell (by have := HG.out; dsimp only; omega) _).setCell (by have := HG.out; dsimp only; omega) _).setCell (by have := HG.out; dsimp only; omega) _⟩)
            rw [← hZ4]
            clear hZ4
            refine ⟨fun _ => H4.out.2.2.2.1, ?_⟩
            refine wpMixU_one rfl ?_
            have hgb := H4.out.2.1
            obtain ⟨r0, r1, r2⟩ := hgb.three
            have f0 := hgb.frozen 0
            have f1 := hgb.frozen 1
            have f2 := hgb.frozen 2
            have hlt := hgb.lt
            clear hgb
            go_wp2_with fail
            clear r0 r1 r2 f0 f1 f2 hlt
            obtain ⟨Z5, hZ5⟩ : ∃ W, W = ((Z4.setCell ⟨gb, 0, none⟩ (.int .i64 q1)).setCell ⟨gb, 1, none⟩ (.int .i64 q2)).setCell ⟨gb, 2, none⟩ (.int .i64 q3) := ⟨_, rfl⟩
            have H5 := hide (show Blk Z5 ga 41 #[.int .i64 p1, .int .i64 p2, .int .i64 p3] ∧ Blk Z5 gb 41 #[.int .i64 q1, .int .i64 q2, .int .i64 q3] ∧ Blk Z5 gc 41 #[.int .i64 0, .int .i64 0, .int .i64 0] ∧ Blk Z5 tb 58 (encT ((p1, p2, p3), (q1, q2, q3), (r1, r2, r3))).toArray ∧ Below Y.heap.size Y Z5 by rw [hZ5]; exact ⟨H4.out.1.far3 (by have := HG.out; omega) _ _ _, H4.out.2.1.set3 _ _ _, H4.out.2.2.1.far3 (by have := HG.out; omega) _ _ _, H4.out.2.2.2.1.far3 (by have := HG.out; omega) _ _ _, ((H4.out.2.2.2.2.setCell (by have := HG.out; dsimp only; omega) _).setCell (by have := HG.out; dsimp only; omega) _).setCell (by have := HG.out; dsimp only; omega) _⟩)
            rw [← hZ5]
            clear hZ5
            refine ⟨fun _ => H5.out.2.2.2.1, ?_⟩
            refine wpMixU_one rfl ?_
            have hgc := H5.out.2.2.1
            obtain ⟨r0, r1, r2⟩ := hgc.three
            have f0 := hgc.frozen 0
            have f1 := hgc.frozen 1
            have f2 := hgc.frozen 2
            have hlt := hgc.lt
            clear hgc
            go_wp2_with fail
            clear r0 r1 r2 f0 f1 f2 hlt
            obtain ⟨Z6, hZ6⟩ : ∃ W, W = ((Z5.setCell ⟨gc, 0, none⟩ (.int .i64 r1)).setCell ⟨gc, 1, none⟩ (.int .i64 r2)).setCell ⟨gc, 2, none⟩ (.int .i64 r3) := ⟨_, rfl⟩
            have H6 := hide (show Blk Z6 ga 41 #[.int .i64 p1, .int .i64 p2, .int .i64 p3] ∧ Blk Z6 gb 41 #[.int .i64 q1, .int .i64 q2, .int .i64 q3] ∧ Blk Z6 gc 41 #[.int .i64 r1, .int .i64 r2, .int .i64 r3] ∧ Blk Z6 tb 58 (encT ((p1, p2, p3), (q1, q2, q3), (r1, r2, r3))).toArray ∧ Below Y.heap.size Y Z6 by rw [hZ6]; exact ⟨H5.out.1.far3 (by have := HG.out; omega) _ _ _, H5.out.2.1.far3 (by have := HG.out; omega) _ _ _, H5.out.2.2.1.set3 _ _ _, H5.out.2.2.2.1.far3 (by have := HG.out; omega) _ _ _, ((H5.out.2.2.2.2.setCell (by have := HG.out; dsimp only; omega) _).setCell (by have := HG.out; dsimp only; omega) _).setCell (by have := HG.out; dsimp only; omega) _⟩)
            rw [← hZ6]
            clear hZ6
            refine ⟨fun _ => H6.out.2.2.2.1, wpMixU_nil ?_⟩
            go_wp2_with fail
            go_meet
            case rel => exact ⟨ga, gb, gc, rfl, rfl, rfl, H6.out.1, H6.out.2.1, H6.out.2.2.1, HG.out.1, H6.out.2.2.2.2⟩
        · go_wp2_with fail
          refine ⟨fun _ => HZ.out.2.2.2.alloc _, ?_⟩
          refine wpMixU_two rfl rfl ?_ ?_
          · go_wp2_with fail
            refine ⟨fun _ => (HZ.out.2.2.2.alloc _).alloc _, ?_⟩
            refine wpMixU_one rfl ?_
            go_wp2_with fail
            refine ⟨fun _ => ((HZ.out.2.2.2.alloc _).alloc _).alloc _, ?_⟩
            obtain ⟨Z3, hZ3⟩ : ∃ W, W = ((Z.alloc (.cells #[.int .i64 0, .int .i64 0, .int .i64 0] 41)).alloc (.cells #[.int .i64 0, .int .i64 0, .int .i64 0] 41)).alloc (.cells #[.int .i64 0, .int .i64 0, .int .i64 0] 41) := ⟨_, rfl⟩
            rw [← hZ3]
            have hgb : Blk Z3 (Z.heap.size) 41 #[.int .i64 0, .int .i64 0, .int .i64 0] := by rw [hZ3]; exact ((Blk.new _ _ _).alloc _).alloc _
            have hga : Blk Z3 (Z.heap.size + 1) 41 #[.int .i64 0, .int .i64 0, .int .i64 0] := by rw [hZ3]; exact (Blk.new' _ _ _ _ (by simp)).alloc _
            have hgc : Blk Z3 (Z.heap.size + 1 + 1) 41 #[.int .i64 0, .int .i64 0, .int .i64 0] := by rw [hZ3]; exact Blk.new' _ _ _ _ (by simp)
            have hT3 : Blk Z3 tb 58 (encT ((p1, p2, p3), (q1, q2, q3), (r1, r2, r3))).toArray := by rw [hZ3]; exact ((HZ.out.2.2.2.alloc _).alloc _).alloc _
            have hB3 : Below Y.heap.size Y Z3 := by rw [hZ3]; exact ((HZ.out.1.alloc (by rw [HZ.out.2.1]; exact Nat.le_refl _) _).alloc (by simp; have := HZ.out.2.1; omega) _).alloc (by simp; have := HZ.out.2.1; omega) _
            obtain ⟨gc, egc⟩ : ∃ g, g = Z.heap.size + 1 + 1 := ⟨_, rfl⟩
            rw [← egc] at hgc ⊢
            obtain ⟨ga, ega⟩ : ∃ g, g = Z.heap.size + 1 := ⟨_, rfl⟩
            rw [← ega] at hga ⊢
            obtain ⟨gb, egb⟩ : ∃ g, g = Z.heap.size := ⟨_, rfl⟩
            rw [← egb] at hgb ⊢
            have HG := hide (show (Y.heap.size ≤ ga ∧ Y.heap.size ≤ gb ∧ Y.heap.size ≤ gc) ∧ (ga ≠ gb ∧ ga ≠ gc ∧ gb ≠ gc) ∧ tb < Y.heap.size by have := HZ.out.2.1; have := HZ.out.2.2.1; omega)
            clear ega egb egc hZ3
            have H3 := hide (And.intro hga (And.intro hgb (And.intro hgc (And.intro hT3 hB3))))
            clear hga hgb hgc hT3 hB3
            refine wpMixU_one rfl ?_
            have hga := H3.out.1
            obtain ⟨r0, r1, r2⟩ := hga.three
            have f0 := hga.frozen 0
            have f1 := hga.frozen 1
            have f2 := hga.frozen 2
            have hlt := hga.lt
            clear hga
            go_wp2_with fail
            clear r0 r1 r2 f0 f1 f2 hlt
            obtain ⟨Z4, hZ4⟩ : ∃ W, W = ((Z3.setCell ⟨ga, 0, none⟩ (.int .i64 p1)).setCell ⟨ga, 1, none⟩ (.int .i64 p2)).setCell ⟨ga, 2, none⟩ (.int .i64 p3) := ⟨_, rfl⟩
            have H4 := hide (show Blk Z4 ga 41 #[.int .i64 p1, .int .i64 p2, .int .i64 p3] ∧ Blk Z4 gb 41 #[.int .i64 0, .int .i64 0, .int .i64 0] ∧ Blk Z4 gc 41 #[.int .i64 0, .int .i64 0, .int .i64 0] ∧ Blk Z4 tb 58 (encT ((p1, p2, p3), (q1, q2, q3), (r1, r2, r3))).toArray ∧ Below Y.heap.size Y Z4 by rw [hZ4]; exact ⟨H3.out.1.set3 _ _ _, H3.out.2.1.far3 (by have := HG.out; omega) _ _ _, H3.out.2.2.1.far3 (by have := HG.out; omega) _ _ _, H3.out.2.2.2.1.far3 (by have := HG.out; omega) _ _ _, ((H3.out.2.2.2.2.setCell (by have := HG.out; dsimp only; omega) _).setCell (by have := HG.out; dsimp only; omega) _).setCell (by have := HG.out; dsimp only; omega) _⟩)
            rw [← hZ4]
            clear hZ4
            refine ⟨fun _ => H4.out.2.2.2.1, ?_⟩
            refine wpMixU_one rfl ?_
            have hgb := H4.out.2.1
            obtain ⟨r0, r1, r2⟩ := hgb.three
            have f0 := hgb.frozen 0
            have f1 := hgb.frozen 1
            have f2 := hgb.frozen 2
            have hlt := hgb.lt
            clear hgb
            go_wp2_with fail
            clear r0 r1 r2 f0 f1 f2 hlt
            obtain ⟨Z5, hZ5⟩ : ∃ W, W = ((Z4.setCell ⟨gb, 0, none⟩ (.int .i64 q1)).setCell ⟨gb, 1, none⟩ (.int .i64 q2)).setCell ⟨gb, 2, none⟩ (.int .i64 q3) := ⟨_, rfl⟩
            have H5 := hide (show Blk Z5 ga 41 #[.int .i64 p1, .int .i64 p2, .int .i64 p3] ∧ Blk Z5 gb 41 #[.int .i64 q1, .int .i64 q2, .int .i64 q3] ∧ Blk Z5 gc 41 #[.int .i64 0, .int .i64 0, .int .i64 0] ∧ Blk Z5 tb 58 (encT ((p1, p2, p3), (q1, q2, q3), (r1, r2, r3))).toArray ∧ Below Y.heap.size Y Z5 by rw [hZ5]; exact ⟨H4.out.1.far3 (by have := HG.out; omega) _ _ _, H4.out.2.1.set3 _ _ _, H4.out.2.2.1.far3 (by have := HG.out; omega) _ _ _, H4.out.2.2.2.1.far3 (by have := HG.out; omega) _ _ _, ((H4.out.2.2.2.2.setCell (by have := HG.out; dsimp only; omega) _).setCell (by have := HG.out; dsimp only; omega) _).setCell (by have := HG.out; dsimp only; omega) _⟩)
            rw [← hZ5]
            clear hZ5
            refine ⟨fun _ => H5.out.2.2.2.1, ?_⟩
            refine wpMixU_one rfl ?_
            have hgc := H5.out.2.2.1
            obtain ⟨r0, r1, r2⟩ := hgc.three
            have f0 := hgc.frozen 0
            have f1 := hgc.frozen 1
            have f2 := hgc.frozen 2
            have hlt := hgc.lt
            clear hgc
            go_wp2_with fail
            clear r0 r1 r2 f0 f1 f2 hlt
            obtain ⟨Z6, hZ6⟩ : ∃ W, W = ((Z5.setCell ⟨gc, 0, none⟩ (.int .i64 r1)).setCell ⟨gc, 1, none⟩ (.int .i64 r2)).setCell ⟨gc, 2, none⟩ (.int .i64 r3) := ⟨_, rfl⟩
            have H6 := hide (show Blk Z6 ga 41 #[.int .i64 p1, .int .i64 p2, .int .i64 p3] ∧ Blk Z6 gb 41 #[.int .i64 q1, .int .i64 q2, .int .i64 q3] ∧ Blk Z6 gc 41 #[.int .i64 r1, .int .i64 r2, .int .i64 r3] ∧ Blk Z6 tb 58 (encT ((p1, p2, p3), (q1, q2, q3), (r1, r2, r3))).toArray ∧ Below Y.heap.size Y Z6 by rw [hZ6]; exact ⟨H5.out.1.far3 (by have := HG.out; omega) _ _ _, H5.out.2.1.far3 (by have := HG.out; omega) _ _ _, H5.out.2.2.1.set3 _ _ _, H5.out.2.2.2.1.far3 (by have := HG.out; omega) _ _ _, ((H5.out.2.2.2.2.setCell (by have := HG.out; dsimp only; omega) _).setCell (by have := HG.out; dsimp only; omega) _).setCell (by have := HG.out; dsimp only; omega) _⟩)
            rw [← hZ6]
            clear hZ6
            refine ⟨fun _ => H6.out.2.2.2.1, wpMixU_nil ?_⟩
            go_wp2_with fail
            go_meet
            case rel => exact ⟨ga, gb, gc, rfl, rfl, rfl, H6.out.1, H6.out.2.1, H6.out.2.2.1, HG.out.1, H6.out.2.2.2.2⟩
          · go_wp2_with fail
            refine ⟨fun _ => (HZ.out.2.2.2.alloc _).alloc _, ?_⟩
            refine wpMixU_one rfl ?_
            go_wp2_with fail
            refine ⟨fun _ => ((HZ.out.2.2.2.alloc _).alloc _).alloc _, ?_⟩
            obtain ⟨Z3, hZ3⟩ : ∃ W, W = ((Z.alloc (.cells #[.int .i64 0, .int .i64 0, .int .i64 0] 41)).alloc (.cells #[.int .i64 0, .int .i64 0, .int .i64 0] 41)).alloc (.cells #[.int .i64 0, .int .i64 0, .int .i64 0] 41) := ⟨_, rfl⟩
            rw [← hZ3]
            have hgb : Blk Z3 (Z.heap.size) 41 #[.int .i64 0, .int .i64 0, .int .i64 0] := by rw [hZ3]; exact ((Blk.new _ _ _).alloc _).alloc _
            have hgc : Blk Z3 (Z.heap.size + 1) 41 #[.int .i64 0, .int .i64 0, .int .i64 0] := by rw [hZ3]; exact (Blk.new' _ _ _ _ (by simp)).alloc _
            have hga : Blk Z3 (Z.heap.size + 1 + 1) 41 #[.int .i64 0, .int .i64 0, .int .i64 0] := by rw [hZ3]; exact Blk.new' _ _ _ _ (by simp)
            have hT3 : Blk Z3 tb 58 (encT ((p1, p2, p3), (q1, q2, q3), (r1, r2, r3))).toArray := by rw [hZ3]; exact ((HZ.out.2.2.2.alloc _).alloc _).alloc _
            have hB3 : Below Y.heap.size Y Z3 := by rw [hZ3]; exact ((HZ.out.1.alloc (by rw [HZ.out.2.1]; exact Nat.le_refl _) _).alloc (by simp; have := HZ.out.2.1; omega) _).alloc (by simp; have := HZ.out.2.1; omega) _
            obtain ⟨ga, ega⟩ : ∃ g, g = Z.heap.size + 1 + 1 := ⟨_, rfl⟩
            rw [← ega] at hga ⊢
            obtain ⟨gc, egc⟩ : ∃ g, g = Z.heap.size + 1 := ⟨_, rfl⟩
            rw [← egc] at hgc ⊢
            obtain ⟨gb, egb⟩ : ∃ g, g = Z.heap.size := ⟨_, rfl⟩
            rw [← egb] at hgb ⊢
            have HG := hide (show (Y.heap.size ≤ ga ∧ Y.heap.size ≤ gb ∧ Y.heap.size ≤ gc) ∧ (ga ≠ gb ∧ ga ≠ gc ∧ gb ≠ gc) ∧ tb < Y.heap.size by have := HZ.out.2.1; have := HZ.out.2.2.1; omega)
            clear ega egb egc hZ3
            have H3 := hide (And.intro hga (And.intro hgb (And.intro hgc (And.intro hT3 hB3))))
            clear hga hgb hgc hT3 hB3
            refine wpMixU_one rfl ?_
            have hga := H3.out.1
            obtain ⟨r0, r1, r2⟩ := hga.three
            have f0 := hga.frozen 0
            have f1 := hga.frozen 1
            have f2 := hga.frozen 2
            have hlt := hga.lt
            clear hga
            go_wp2_with fail
            clear r0 r1 r2 f0 f1 f2 hlt
            obtain ⟨Z4, hZ4⟩ : ∃ W, W = ((Z3.setCell ⟨ga, 0, none⟩ (.int .i64 p1)).setCell ⟨ga, 1, none⟩ (.int .i64 p2)).setCell ⟨ga, 2, none⟩ (.int .i64 p3) := ⟨_, rfl⟩
            have H4 := hide (show Blk Z4 ga 41 #[.int .i64 p1, .int .i64 p2, .int .i64 p3] ∧ Blk Z4 gb 41 #[.int .i64 0, .int .i64 0, .int .i64 0] ∧ Blk Z4 gc 41 #[.int .i64 0, .int .i64 0, .int .i64 0] ∧ Blk Z4 tb 58 (encT ((p1, p2, p3), (q1, q2, q3), (r1, r2, r3))).toArray ∧ Below Y.heap.size Y Z4 by rw [hZ4]; exact ⟨H3.out.1.set3 _ _ _, H3.out.2.1.far3 (by have := HG.out; omega) _ _ _, H3.out.2.2.1.far3 (by have := HG.out; omega) _ _ _, H3.out.2.2.2.1.far3 (by have := HG.out; omega) _ _ _, ((H3.out.2.2.2.2.setCell (by have := HG.out; dsimp only; omega) _).setCell (by have := HG.out; dsimp only; omega) _).setCell (by have := HG.out; dsimp only; omega) _⟩)
            rw [← hZ4]
            clear hZ4
            refine ⟨fun _ => H4.out.2.2.2.1, ?_⟩
            refine wpMixU_one rfl ?_
            have hgb := H4.out.2.1
            obtain ⟨r0, r1, r2⟩ := hgb.three
            have f0 := hgb.frozen 0
            have f1 := hgb.frozen 1
            have f2 := hgb.frozen 2
            have hlt := hgb.lt
            clear hgb
            go_wp2_with fail
            clear r0 r1 r2 f0 f1 f2 hlt
            obtain ⟨Z5, hZ5⟩ : ∃ W, W = ((Z4.setCell ⟨gb, 0, none⟩ (.int .i64 q1)).setCell ⟨gb, 1, none⟩ (.int .i64 q2)).setCell ⟨gb, 2, none⟩ (.int .i64 q3) := ⟨_, rfl⟩
            have H5 := hide (show Blk Z5 ga 41 #[.int .i64 p1, .int .i64 p2, .int .i64 p3] ∧ Blk Z5 gb 41 #[.int .i64 q1, .int .i64 q2, .int .i64 q3] ∧ Blk Z5 gc 41 #[.int .i64 0, .int .i64 0, .int .i64 0] ∧ Blk Z5 tb 58 (encT ((p1, p2, p3), (q1, q2, q3), (r1, r2, r3))).toArray ∧ Below Y.heap.size Y Z5 by rw [hZ5]; exact ⟨H4.out.1.far3 (by have := HG.out; omega) _ _ _, H4.out.2.1.set3 _ _ _, H4.out.2.2.1.far3 (by have := HG.out; omega) _ _ _, H4.out.2.2.2.1.far3 (by have := HG.out; omega) _ _ _, ((H4.out.2.2.2.2.setCell (by have := HG.out; dsimp only; omega) _).setCell (by have := HG.out; dsimp only; omega) _).setCell (by have := HG.out; dsimp only; omega) _⟩)
            rw [← hZ5]
            clear hZ5
            refine ⟨fun _ => H5.out.2.2.2.1, ?_⟩
            refine wpMixU_one rfl ?_
            have hgc := H5.out.2.2.1
            obtain ⟨r0, r1, r2⟩ := hgc.three
            have f0 := hgc.frozen 0
            have f1 := hgc.frozen 1
            have f2 := hgc.frozen 2
            have hlt := hgc.lt
            clear hgc
            go_wp2_with fail
            clear r0 r1 r2 f0 f1 f2 hlt
            obtain ⟨Z6, hZ6⟩ : ∃ W, W = ((Z5.setCell ⟨gc, 0, none⟩ (.int .i64 r1)).setCell ⟨gc, 1, none⟩ (.int .i64 r2)).setCell ⟨gc, 2, none⟩ (.int .i64 r3) := ⟨_, rfl⟩
            have H6 := hide (show Blk Z6 ga 41 #[.int .i64 p1, .int .i64 p2, .int .i64 p3] ∧ Blk Z6 gb 41 #[.int .i64 q1, .int .i64 q2, .int .i64 q3] ∧ Blk Z6 gc 41 #[.int .i64 r1, .int .i64 r2, .int .i64 r3] ∧ Blk Z6 tb 58 (encT ((p1, p2, p3), (q1, q2, q3), (r1, r2, r3))).toArray ∧ Below Y.heap.size Y Z6 by rw [hZ6]; exact ⟨H5.out.1.far3 (by have := HG.out; omega) _ _ _, H5.out.2.1.far3 (by have := HG.out; omega) _ _ _, H5.out.2.2.1.set3 _ _ _, H5.out.2.2.2.1.far3 (by have := HG.out; omega) _ _ _, ((H5.out.2.2.2.2.setCell (by have := HG.out; dsimp only; omega) _).setCell (by have := HG.out; dsimp only; omega) _).setCell (by have := HG.out; dsimp only; omega) _⟩)
            rw [← hZ6]
            clear hZ6
            refine ⟨fun _ => H6.out.2.2.2.1, wpMixU_nil ?_⟩
            go_wp2_with fail
            go_meet
            case rel => exact ⟨ga, gb, gc, rfl, rfl, rfl, H6.out.1, H6.out.2.1, H6.out.2.2.1, HG.out.1, H6.out.2.2.2.2⟩
        · go_wp2_with fail
          refine ⟨fun _ => HZ.out.2.2.2.alloc _, ?_⟩
          refine wpMixU_two rfl rfl ?_ ?_
          · go_wp2_with fail
            refine ⟨fun _ => (HZ.out.2.2.2.alloc _).alloc _, ?_⟩
            refine wpMixU_one rfl ?_
            go_wp2_with fail
            refine ⟨fun _ => ((HZ.out.2.2.2.alloc _).alloc _).alloc _, ?_⟩
            obtain ⟨Z3, hZ3⟩ : ∃ W, W = ((Z.alloc (.cells #[.int .i64 0, .int .i64 0, .int .i64 0] 41)).alloc (.cells #[.int .i64 0, .int .i64 0, .int .i64 0] 41)).alloc (.cells #[.int .i64 0, .int .i64 0, .int .i64 0] 41) := ⟨_, rfl⟩
            rw [← hZ3]
            have hgc : Blk Z3 (Z.heap.size) 41 #[.int .i64 0, .int .i64 0, .int .i64 0] := by rw [hZ3]; exact ((Blk.new _ _ _).alloc _).alloc _
            have hga : Blk Z3 (Z.heap.size + 1) 41 #[.int .i64 0, .int .i64 0, .int .i64 0] := by rw [hZ3]; exact (Blk.new' _ _ _ _ (by simp)).alloc _
            have hgb : Blk Z3 (Z.heap.size + 1 + 1) 41 #[.int .i64 0, .int .i64 0, .int .i64 0] := by rw [hZ3]; exact Blk.new' _ _ _ _ (by simp)
            have hT3 : Blk Z3 tb 58 (encT ((p1, p2, p3), (q1, q2, q3), (r1, r2, r3))).toArray := by rw [hZ3]; exact ((HZ.out.2.2.2.alloc _).alloc _).alloc _
            have hB3 : Below Y.heap.size Y Z3 := by rw [hZ3]; exact ((HZ.out.1.alloc (by rw [HZ.out.2.1]; exact Nat.le_refl _) _).alloc (by simp; have := HZ.out.2.1; omega) _).alloc (by simp; have := HZ.out.2.1; omega) _
            obtain ⟨gb, egb⟩ : ∃ g, g = Z.heap.size + 1 + 1 := ⟨_, rfl⟩
            rw [← egb] at hgb ⊢
            obtain ⟨ga, ega⟩ : ∃ g, g = Z.heap.size + 1 := ⟨_, rfl⟩
            rw [← ega] at hga ⊢
            obtain ⟨gc, egc⟩ : ∃ g, g = Z.heap.size := ⟨_, rfl⟩
            rw [← egc] at hgc ⊢
            have HG := hide (show (Y.heap.size ≤ ga ∧ Y.heap.size ≤ gb ∧ Y.heap.size ≤ gc) ∧ (ga ≠ gb ∧ ga ≠ gc ∧ gb ≠ gc) ∧ tb < Y.heap.size by have := HZ.out.2.1; have := HZ.out.2.2.1; omega)
            clear ega egb egc hZ3
            have H3 := hide (And.intro hga (And.intro hgb (And.intro hgc (And.intro hT3 hB3))))
            clear hga hgb hgc hT3 hB3
            refine wpMixU_one rfl ?_
            have hga := H3.out.1
            obtain ⟨r0, r1, r2⟩ := hga.three
            have f0 := hga.frozen 0
            have f1 := hga.frozen 1
            have f2 := hga.frozen 2
            have hlt := hga.lt
            clear hga
            go_wp2_with fail
            clear r0 r1 r2 f0 f1 f2 hlt
            obtain ⟨Z4, hZ4⟩ : ∃ W, W = ((Z3.setCell ⟨ga, 0, none⟩ (.int .i64 p1)).setCell ⟨ga, 1, none⟩ (.int .i64 p2)).setCell ⟨ga, 2, none⟩ (.int .i64 p3) := ⟨_, rfl⟩
            have H4 := hide (show Blk Z4 ga 41 #[.int .i64 p1, .int .i64 p2, .int .i64 p3] ∧ Blk Z4 gb 41 #[.int .i64 0, .int .i64 0, .int .i64 0] ∧ Blk Z4 gc 41 #[.int .i64 0, .int .i64 0, .int .i64 0] ∧ Blk Z4 tb 58 (encT ((p1, p2, p3), (q1, q2, q3), (r1, r2, r3))).toArray ∧ Below Y.heap.size Y Z4 by rw [hZ4]; exact ⟨H3.out.1.set3 _ _ _, H3.out.2.1.far3 (by have := HG.out; omega) _ _ _, H3.out.2.2.1.far3 (by have := HG.out; omega) _ _ _, H3.out.2.2.2.1.far3 (by have := HG.out; omega) _ _ _, ((H3.out.2.2.2.2.setCell (by have := HG.out; dsimp only; omega) _).setCell (by have := HG.out; dsimp only; omega) _).setCell (by have := HG.out; dsimp only; omega) _⟩)
            rw [← hZ4]
            clear hZ4
            refine ⟨fun _ => H4.out.2.2.2.1, ?_⟩
            refine wpMixU_one rfl ?_
            have hgb := H4.out.2.1
            obtain ⟨r0, r1, r2⟩ := hgb.three
            have f0 := hgb.frozen 0
            have f1 := hgb.frozen 1
            have f2 := hgb.frozen 2
            have hlt := hgb.lt
            clear hgb
            go_wp2_with fail
            clear r0 r1 r2 f0 f1 f2 hlt
            obtain ⟨Z5, hZ5⟩ : ∃ W, W = ((Z4.setCell ⟨gb, 0, none⟩ (.int .i64 q1)).setCell ⟨gb, 1, none⟩ (.int .i64 q2)).setCell ⟨gb, 2, none⟩ (.int .i64 q3) := ⟨_, rfl⟩
            have H5 := hide (show Blk Z5 ga 41 #[.int .i64 p1, .int .i64 p2, .int .i64 p3] ∧ Blk Z5 gb 41 #[.int .i64 q1, .int .i64 q2, .int .i64 q3] ∧ Blk Z5 gc 41 #[.int .i64 0, .int .i64 0, .int .i64 0] ∧ Blk Z5 tb 58 (encT ((p1, p2, p3), (q1, q2, q3), (r1, r2, r3))).toArray ∧ Below Y.heap.size Y Z5 by rw [hZ5]; exact ⟨H4.out.1.far3 (by have := HG.out; omega) _ _ _, H4.out.2.1.set3 _ _ _, H4.out.2.2.1.far3 (by have := HG.out; omega) _ _ _, H4.out.2.2.2.1.far3 (by have := HG.out; omega) _ _ _, ((H4.out.2.2.2.2.setCell (by have := HG.out; dsimp only; omega) _).setCell (by have := HG.out; dsimp only; omega) _).setCell (by have := HG.out; dsimp only; omega) _⟩)
            rw [← hZ5]
            clear hZ5
            refine ⟨fun _ => H5.out.2.2.2.1, ?_⟩
            refine wpMixU_one rfl ?_
            have hgc := H5.out.2.2.1
            obtain ⟨r0, r1, r2⟩ := hgc.three
            have f0 := hgc.frozen 0
            have f1 := hgc.frozen 1
            have f2 := hgc.frozen 2
            have hlt := hgc.lt
            clear hgc
            go_wp2_with fail
            clear r0 r1 r2 f0 f1 f2 hlt
            obtain ⟨Z6, hZ6⟩ : ∃ W, W = ((Z5.setCell ⟨gc, 0, none⟩ (.int .i64 r1)).setCell ⟨gc, 1, none⟩ (.int .i64 r2)).setCell ⟨gc, 2, none⟩ (.int .i64 r3) := ⟨_, rfl⟩
            have H6 := hide (show Blk Z6 ga 41 #[.int .i64 p1, .int .i64 p2, .int .i64 p3] ∧ Blk Z6 gb 41 #[.int .i64 q1, .int .i64 q2, .int .i64 q3] ∧ Blk Z6 gc 41 #[.int .i64 r1, .int .i64 r2, .int .i64 r3] ∧ Blk Z6 tb 58 (encT ((p1, p2, p3), (q1, q2, q3), (r1, r2, r3))).toArray ∧ Below Y.heap.size Y Z6 by rw [hZ6]; exact ⟨H5.out.1.far3 (by have := HG.out; omega) _ _ _, H5.out.2.1.far3 (by have := HG.out; omega) _ _ _, H5.out.2.2.1.set3 _ _ _, H5.out.2.2.2.1.far3 (by have := HG.out; omega) _ _ _, ((H5.out.2.2.2.2.setCell (by have := HG.out; dsimp only; omega) _).setCell (by have := HG.out; dsimp only; omega) _).setCell (by have := HG.out; dsimp only; omega) _⟩)
            rw [← hZ6]
            clear hZ6
            refine ⟨fun _ => H6.out.2.2.2.1, wpMixU_nil ?_⟩
            go_wp2_with fail
            go_meet
            case rel => exact ⟨ga, gb, gc, rfl, rfl, rfl, H6.out.1, H6.out.2.1, H6.out.2.2.1, HG.out.1, H6.out.2.2.2.2⟩
          · go_wp2_with fail
            refine ⟨fun _ => (HZ.out.2.2.2.alloc _).alloc _, ?_⟩
            refine wpMixU_one rfl ?_
            go_wp2_with fail
            refine ⟨fun _ => ((HZ.out.2.2.2.alloc _).alloc _).alloc _, ?_⟩
            obtain ⟨Z3, hZ3⟩ : ∃ W, W = ((Z.alloc (.cells #[.int .i64 0, .int .i64 0, .int .i64 0] 41)).alloc (.cells #[.int .i64 0, .int .i64 0, .int .i64 0] 41)).alloc (.cells #[.int .i64 0, .int .i64 0, .int .i64 0] 41) := ⟨_, rfl⟩
            rw [← hZ3]
            have hgc : Blk Z3 (Z.heap.size) 41 #[.int .i64 0, .int .i64 0, .int .i64 0] := by rw [hZ3]; exact ((Blk.new _ _ _).alloc _).alloc _
            have hgb : Blk Z3 (Z.heap.size + 1) 41 #[.int .i64 0, .int .i64 0, .int .i64 0] := by rw [hZ3]; exact (Blk.new' _ _ _ _ (by simp)).alloc _
            have hga : Blk Z3 (Z.heap.size + 1 + 1) 41 #[.int .i64 0, .int .i64 0, .int .i64 0] := by rw [hZ3]; exact Blk.new' _ _ _ _ (by simp)
            have hT3 : Blk Z3 tb 58 (encT ((p1, p2, p3), (q1, q2, q3), (r1, r2, r3))).toArray := by rw [hZ3]; exact ((HZ.out.2.2.2.alloc _).alloc _).alloc _
            have hB3 : Below Y.heap.size Y Z3 := by rw [hZ3]; exact ((HZ.out.1.alloc (by rw [HZ.out.2.1]; exact Nat.le_refl _) _).alloc (by simp; have := HZ.out.2.1; omega) _).alloc (by simp; have := HZ.out.2.1; omega) _
            obtain ⟨ga, ega⟩ : ∃ g, g = Z.heap.size + 1 + 1 := ⟨_, rfl⟩
            rw [← ega] at hga ⊢
            obtain ⟨gb, egb⟩ : ∃ g, g = Z.heap.size + 1 := ⟨_, rfl⟩
            rw [← egb] at hgb ⊢
            obtain ⟨gc, egc⟩ : ∃ g, g = Z.heap.size := ⟨_, rfl⟩
            rw [← egc] at hgc ⊢
            have HG := hide (show (Y.heap.size ≤ ga ∧ Y.heap.size ≤ gb ∧ Y.heap.size ≤ gc) ∧ (ga ≠ gb ∧ ga ≠ gc ∧ gb ≠ gc) ∧ tb < Y.heap.size by have := HZ.out.2.1; have := HZ.out.2.2.1; omega)
            clear ega egb egc hZ3
            have H3 := hide (And.intro hga (And.intro hgb (And.intro hgc (And.intro hT3 hB3))))
            clear hga hgb hgc hT3 hB3
            refine wpMixU_one rfl ?_
            have hga := H3.out.1
            obtain ⟨r0, r1, r2⟩ := hga.three
            have f0 := hga.frozen 0
            have f1 := hga.frozen 1
            have f2 := hga.frozen 2
            have hlt := hga.lt
            clear hga
            go_wp2_with fail
            clear r0 r1 r2 f0 f1 f2 hlt
            obtain ⟨Z4, hZ4⟩ : ∃ W, W = ((Z3.setCell ⟨ga, 0, none⟩ (.int .i64 p1)).setCell ⟨ga, 1, none⟩ (.int .i64 p2)).setCell ⟨ga, 2, none⟩ (.int .i64 p3) := ⟨_, rfl⟩
            have H4 := hide (show Blk Z4 ga 41 #[.int .i64 p1, .int .i64 p2, .int .i64 p3] ∧ Blk Z4 gb 41 #[.int .i64 0, .int .i64 0, .int .i64 0] ∧ Blk Z4 gc 41 #[.int .i64 0, .int .i64 0, .int .i64 0] ∧ Blk Z4 tb 58 (encT ((p1, p2, p3), (q1, q2, q3), (r1, r2, r3))).toArray ∧ Below Y.heap.size Y Z4 by rw [hZ4]; exact ⟨H3.out.1.set3 _ _ _, H3.out.2.1.far3 (by have := HG.out; omega) _ _ _, H3.out.2.2.1.far3 (by have := HG.out; omega) _ _ _, H3.out.2.2.2.1.far3 (by have := HG.out; omega) _ _ _, ((H3.out.2.2.2.2.setCell (by have := HG.out; dsimp only; omega) _).setCell (by have := HG.out; dsimp only; omega) _).setCell (by have := HG.out; dsimp only; omega) _⟩)
            rw [← hZ4]
            clear hZ4
            refine ⟨fun _ => H4.out.2.2.2.1, ?_⟩
            refine wpMixU_one rfl ?_
            have hgb := H4.out.2.1
            obtain ⟨r0, r1, r2⟩ := hgb.three
            have f0 := hgb.frozen 0
            have f1 := hgb.frozen 1
            have f2 := hgb.frozen 2
            have hlt := hgb.lt
            clear hgb
            go_wp2_with fail
            clear r0 r1 r2 f0 f1 f2 hlt
            obtain ⟨Z5, hZ5⟩ : ∃ W, W = ((Z4.setCell ⟨gb, 0, none⟩ (.int .i64 q1)).setCell ⟨gb, 1, none⟩ (.int .i64 q2)).setCell ⟨gb, 2, none⟩ (.int .i64 q3) := ⟨_, rfl⟩
            have H5 := hide (show Blk Z5 ga 41 #[.int .i64 p1, .int .i64 p2, .int .i64 p3] ∧ Blk Z5 gb 41 #[.int .i64 q1, .int .i64 q2, .int .i64 q3] ∧ Blk Z5 gc 41 #[.int .i64 0, .int .i64 0, .int .i64 0] ∧ Blk Z5 tb 58 (encT ((p1, p2, p3), (q1, q2, q3), (r1, r2, r3))).toArray ∧ Below Y.heap.size Y Z5 by rw [hZ5]; exact ⟨H4.out.1.far3 (by have := HG.out; omega) _ _ _, H4.out.2.1.set3 _ _ _, H4.out.2.2.1.far3 (by have := HG.out; omega) _ _ _, H4.out.2.2.2.1.far3 (by have := HG.out; omega) _ _ _, ((H4.out.2.2.2.2.setCell (by have := HG.out; dsimp only; omega) _).setCell (by have := HG.out; dsimp only; omega) _).setCell (by have := HG.out; dsimp only; omega) _⟩)
            rw [← hZ5]
            clear hZ5
            refine ⟨fun _ => H5.out.2.2.2.1, ?_⟩
            refine wpMixU_one rfl ?_
            have hgc := H5.out.2.2.1
            obtain ⟨r0, r1, r2⟩ := hgc.three
            have f0 := hgc.frozen 0
            have f1 := hgc.frozen 1
            have f2 := hgc.frozen 2
            have hlt := hgc.lt
            clear hgc
            go_wp2_with fail
            clear r0 r1 r2 f0 f1 f2 hlt
            obtain ⟨Z6, hZ6⟩ : ∃ W, W = ((Z5.setCell ⟨gc, 0, none⟩ (.int .i64 r1)).setCell ⟨gc, 1, none⟩ (.int .i64 r2)).setCell ⟨gc, 2, none⟩ (.int .i64 r3) := ⟨_, rfl⟩
            have H6 := hide (show Blk Z6 ga 41 #[.int .i64 p1, .int .i64 p2, .int .i64 p3] ∧ Blk Z6 gb 41 #[.int .i64 q1, .int .i64 q2, .int .i64 q3] ∧ Blk Z6 gc 41 #[.int .i64 r1, .int .i64 r2, .int .i64 r3] ∧ Blk Z6 tb 58 (encT ((p1, p2, p3), (q1, q2, q3), (r1, r2, r3))).toArray ∧ Below Y.heap.size Y Z6 by rw [hZ6]; exact ⟨H5.out.1.far3 (by have := HG.out; omega) _ _ _, H5.out.2.1.far3 (by have := HG.out; omega) _ _ _, H5.out.2.2.1.set3 _ _ _, H5.out.2.2.2.1.far3 (by have := HG.out; omega) _ _ _, ((H5.out.2.2.2.2.setCell (by have := HG.out; dsimp only; omega) _).setCell (by have := HG.out; dsimp only; omega) _).setCell (by have := HG.out; dsimp only; omega) _⟩)
            rw [← hZ6]
            clear hZ6
            refine ⟨fun _ => H6.out.2.2.2.1, wpMixU_nil ?_⟩
            go_wp2_with fail
            go_meet
            case rel => exact ⟨ga, gb, gc, rfl, rfl, rfl, H6.out.1, H6.out.2.1, H6.out.2.2.1, HG.out.1, H6.out.2.2.2.2⟩
      case rest =>
        obtain ⟨ga, gb, gc, rfl, rfl, rfl, hba, hbb2, hbc, hge, hBW⟩ := hcut
        obtain ⟨U, rfl⟩ : ∃ x, x = wc := ⟨_, rfl⟩
        obtain ⟨hC0, hC1, hC2⟩ := HCC.out
        subst hC0 hC1 hC2
        obtain ⟨hb, hW, hq, hr, hB, hft, hsn⟩ := HK.out
        have hBVU : Below V.heap.size V U := HY.out.2.1.trans (hBW.mono HY.out.2.1.size)
        have hVS : VolS w U rb ga gb gc #[.int .i64 p1, .int .i64 p2, .int .i64 p3] #[.int .i64 q1, .int .i64 q2, .int .i64 q3] #[.int .i64 r1, .int .i64 r2, .int .i64 r3] := ⟨hr.below hBVU hr.lt, hba, hbb2, hbc, hB.trans (hBVU.mono hB.size)⟩
        have hsbU := hb.below hBVU hb.lt
        have hne : rb ≠ sb ∧ ga ≠ sb ∧ gb ≠ sb ∧ gc ≠ sb ∧ w.heap.size ≤ sb ∧ sb < V.heap.size := by
          have h1 := hb.lt
          have h2 := HY.out.2.1.size
          have h3 := HX.out.2.2.2.1
          have h4 := HX.out.2.2.2.2.1
          omega
        obtain ⟨⟨fp1, fp2, fp3⟩, ⟨fq1, fq2, fq3⟩, ⟨fr1, fr2, fr3⟩⟩ := hft
        dsimp only at fp1 fp2 fp3 fq1 fq2 fq3 fr1 fr2 fr3
        have cx0 := fun W => prodN_any p1 q2 r3 (fits_I64 fp1) (fits_I64 fq2) (fits_I64 fr3) W
        have lx0 := prod_le (fits_I64 fp1) (fits_I64 fq2) (fits_I64 fr3)
        rw [← HX.out.2.2.2.2.2.2] at lx0
        have cx1 := fun W => prodN_any p2 q3 r1 (fits_I64 fp2) (fits_I64 fq3) (fits_I64 fr1) W
        have lx1 := prod_le (fits_I64 fp2) (fits_I64 fq3) (fits_I64 fr1)
        rw [← HX.out.2.2.2.2.2.2] at lx1
        have cx2 := fun W => prodN_any p3 q1 r2 (fits_I64 fp3) (fits_I64 fq1) (fits_I64 fr2) W
        have lx2 := prod_le (fits_I64 fp3) (fits_I64 fq1) (fits_I64 fr2)
        rw [← HX.out.2.2.2.2.2.2] at lx2
        have cy0 := fun W => prodN_any p1 q3 r2 (fits_I64 fp1) (fits_I64 fq3) (fits_I64 fr2) W
        have ly0 := prod_le (fits_I64 fp1) (fits_I64 fq3) (fits_I64 fr2)
        rw [← HX.out.2.2.2.2.2.2] at ly0
        have cy1 := fun W => prodN_any p2 q1 r3 (fits_I64 fp2) (fits_I64 fq1) (fits_I64 fr3) W
        have ly1 := prod_le (fits_I64 fp2) (fits_I64 fq1) (fits_I64 fr3)
        rw [← HX.out.2.2.2.2.2.2] at ly1
        have cy2 := fun W => prodN_any p3 q2 r1 (fits_I64 fp3) (fits_I64 fq2) (fits_I64 fr1) W
        have ly2 := prod_le (fits_I64 fp3) (fits_I64 fq2) (fits_I64 fr1)
        rw [← HX.out.2.2.2.2.2.2] at ly2
        have hdet : detV ((p1, p2, p3), (q1, q2, q3), (r1, r2, r3)) = (p1 * (q2 * r3) + p2 * (q3 * r1) + p3 * (q1 * r2)) - (p1 * (q3 * r2) + p2 * (q1 * r3) + p3 * (q2 * r1)) := rfl
        obtain ⟨x0, ex0⟩ : ∃ x, x = p1 * (q2 * r3) := ⟨_, rfl⟩
        rw [← ex0] at cx0 lx0 hdet
        obtain ⟨x1, ex1⟩ : ∃ x, x = p2 * (q3 * r1) := ⟨_, rfl⟩
        rw [← ex1] at cx1 lx1 hdet
        obtain ⟨x2, ex2⟩ : ∃ x, x = p3 * (q1 * r2) := ⟨_, rfl⟩
        rw [← ex2] at cx2 lx2 hdet
        obtain ⟨y0, ey0⟩ : ∃ x, x = p1 * (q3 * r2) := ⟨_, rfl⟩
        rw [← ey0] at cy0 ly0 hdet
        obtain ⟨y1, ey1⟩ : ∃ x, x = p2 * (q1 * r3) := ⟨_, rfl⟩
        rw [← ey1] at cy1 ly1 hdet
        obtain ⟨y2, ey2⟩ : ∃ x, x = p3 * (q2 * r1) := ⟨_, rfl⟩
        rw [← ey2] at cy2 ly2 hdet
        rw [hdet] at hsn
        have HC := hide (And.intro cx0 (And.intro cx1 (And.intro cx2 (And.intro cy0 (And.intro cy1 cy2)))))
        have HL := hide (And.intro lx0 (And.intro lx1 (And.intro lx2 (And.intro ly0 (And.intro ly1 ly2)))))
        have HU := hide (And.intro hVS (And.intro hsbU (And.intro hW (And.intro hq (And.intro hne hsn)))))
        clear hba hbb2 hbc hge hBW hb hW hq hr hB hsn hBVU hVS hsbU hne fp1 fp2 fp3 fq1 fq2 fq3 fr1 fr2 fr3 cx0 cx1 cx2 cy0 cy1 cy2 lx0 lx1 lx2 ly0 ly1 ly2 ex0 ex1 ex2 ey0 ey1 ey2 hdet
        have HSp := hide (show ∀ W, (Blk W ga 41 #[.int .i64 p1, .int .i64 p2, .int .i64 p3] ∧ Blk W gb 41 #[.int .i64 q1, .int .i64 q2, .int .i64 q3] ∧ Blk W gc 41 #[.int .i64 r1, .int .i64 r2, .int .i64 r3]) → (W.cell? ⟨ga, 0, none⟩ = some (.int .i64 p1) ∧ W.cell? ⟨ga, 1, none⟩ = some (.int .i64 p2) ∧ W.cell? ⟨ga, 2, none⟩ = some (.int .i64 p3)) ∧ (W.cell? ⟨gb, 0, none⟩ = some (.int .i64 q1) ∧ W.cell? ⟨gb, 1, none⟩ = some (.int .i64 q2) ∧ W.cell? ⟨gb, 2, none⟩ = some (.int .i64 q3)) ∧ W.cell? ⟨gc, 0, none⟩ = some (.int .i64 r1) ∧ W.cell? ⟨gc, 1, none⟩ = some (.int .i64 r2) ∧ W.cell? ⟨gc, 2, none⟩ = some (.int .i64 r3) from fun W h => ⟨⟨h.1.cell 0, h.1.cell 1, h.1.cell 2⟩, ⟨h.2.1.cell 0, h.2.1.cell 1, h.2.1.cell 2⟩, h.2.2.cell 0, h.2.2.cell 1, h.2.2.cell 2⟩)
        have hVd : VolS w U.drew rb ga gb gc #[.int .i64 p1, .int .i64 p2, .int .i64 p3] #[.int .i64 q1, .int .i64 q2, .int .i64 q3] #[.int .i64 r1, .int .i64 r2, .int .i64 r3] := (HU.out.1).on (Below.refl _ U).drew
        have HQ := hide (And.intro hVd.pa (And.intro hVd.pb hVd.pc))
        clear hVd
        go_upto_region 7 with fail
        refine wp_region_mix (fun W => Blk W ga 41 #[.int .i64 p1, .int .i64 p2, .int .i64 p3] ∧ Blk W gb 41 #[.int .i64 q1, .int .i64 q2, .int .i64 q3] ∧ Blk W gc 41 #[.int .i64 r1, .int .i64 r2, .int .i64 r3]) [0, 1, 2, 3, 4, 5, 6, 8, 9, 10, 11, 12, 13, 14, 16, 17, 18, 19, 20, 21, 22, 26] [0, 1, 2, 3, 4, 5, 6, 8, 9, 10, 11, 12, 13, 14, 16, 17, 18, 19, 20, 21, 22, 26, 7, 15, 23, 24, 25] mixed_ok (by kernel_rfl) ?_
        refine wpMix_q (v := .func (.func 56) #[] #[]) rfl rfl (fun _ _ _ h => h) HQ.out ⟨rfl, fun _ _ => by simp [go_sem]⟩ ?_
        simp only [List.getElem_toArray, List.getElem_cons_zero, Act.put, List.setIfInBounds_toArray, List.set_cons_succ, List.set_cons_zero]
        refine wpMix_q (v := .pointer (some ⟨ga, 0, none⟩)) rfl rfl (fun _ _ _ h => h) HQ.out ⟨rfl, fun _ _ => by simp [go_sem]⟩ ?_
        simp only [List.getElem_toArray, List.getElem_cons_succ, List.getElem_cons_zero, Act.put, List.setIfInBounds_toArray, List.set_cons_succ, List.set_cons_zero]
        refine wpMix_q (v := .int .i64 p1) rfl rfl (fun _ _ _ h => h) HQ.out ⟨rfl, fun W h => by obtain ⟨⟨a0, a1, a2⟩, ⟨b0, b1, b2⟩, c0, c1, c2⟩ := HSp.out W h; simp [go_sem, a0]⟩ ?_
        simp only [List.getElem_toArray, List.getElem_cons_succ, List.getElem_cons_zero, Act.put, List.setIfInBounds_toArray, List.set_cons_succ, List.set_cons_zero]
        refine wpMix_q (v := .pointer (some ⟨gb, 1, none⟩)) rfl rfl (fun _ _ _ h => h) HQ.out ⟨rfl, fun _ _ => by simp [go_sem]⟩ ?_
        simp only [List.getElem_toArray, List.getElem_cons_succ, List.getElem_cons_zero, Act.put, List.setIfInBounds_toArray, List.set_cons_succ, List.set_cons_zero]
        refine wpMix_q (v := .int .i64 q2) rfl rfl (fun _ _ _ h => h) HQ.out ⟨rfl, fun W h => by obtain ⟨⟨a0, a1, a2⟩, ⟨b0, b1, b2⟩, c0, c1, c2⟩ := HSp.out W h; simp [go_sem, b1]⟩ ?_
        simp only [List.getElem_toArray, List.getElem_cons_succ, List.getElem_cons_zero, Act.put, List.setIfInBounds_toArray, List.set_cons_succ, List.set_cons_zero]
        refine wpMix_q (v := .pointer (some ⟨gc, 2, none⟩)) rfl rfl (fun _ _ _ h => h) HQ.out ⟨rfl, fun _ _ => by simp [go_sem]⟩ ?_
        simp only [List.getElem_toArray, List.getElem_cons_succ, List.getElem_cons_zero, Act.put, List.setIfInBounds_toArray, List.set_cons_succ, List.set_cons_zero]
        refine wpMix_q (v := .int .i64 r3) rfl rfl (fun _ _ _ h => h) HQ.out ⟨rfl, fun W h => by obtain ⟨⟨a0, a1, a2⟩, ⟨b0, b1, b2⟩, c0, c1, c2⟩ := HSp.out W h; simp [go_sem, c2]⟩ ?_
        simp only [List.getElem_toArray, List.getElem_cons_succ, List.getElem_cons_zero, Act.put, List.setIfInBounds_toArray, List.set_cons_succ, List.set_cons_zero]
        refine wpMix_q (v := .func (.func 56) #[] #[]) rfl rfl (fun _ _ _ h => h) HQ.out ⟨rfl, fun _ _ => by simp [go_sem]⟩ ?_
        simp only [List.getElem_toArray, List.getElem_cons_succ, List.getElem_cons_zero, Act.put, List.setIfInBounds_toArray, List.set_cons_succ, List.set_cons_zero]
        refine wpMix_q (v := .pointer (some ⟨ga, 1, none⟩)) rfl rfl (fun _ _ _ h => h) HQ.out ⟨rfl, fun _ _ => by simp [go_sem]⟩ ?_
        simp only [List.getElem_toArray, List.getElem_cons_succ, List.getElem_cons_zero, Act.put, List.setIfInBounds_toArray, List.set_cons_succ, List.set_cons_zero]
        refine wpMix_q (v := .int .i64 p2) rfl rfl (fun _ _ _ h => h) HQ.out ⟨rfl, fun W h => by obtain ⟨⟨a0, a1, a2⟩, ⟨b0, b1, b2⟩, c0, c1, c2⟩ := HSp.out W h; simp [go_sem, a1]⟩ ?_
        simp only [List.getElem_toArray, List.getElem_cons_succ, List.getElem_cons_zero, Act.put, List.setIfInBounds_toArray, List.set_cons_succ, List.set_cons_zero]
        refine wpMix_q (v := .pointer (some ⟨gb, 2, none⟩)) rfl rfl (fun _ _ _ h => h) HQ.out ⟨rfl, fun _ _ => by simp [go_sem]⟩ ?_
        simp only [List.getElem_toArray, List.getElem_cons_succ, List.getElem_cons_zero, Act.put, List.setIfInBounds_toArray, List.set_cons_succ, List.set_cons_zero]
        refine wpMix_q (v := .int .i64 q3) rfl rfl (fun _ _ _ h => h) HQ.out ⟨rfl, fun W h => by obtain ⟨⟨a0, a1, a2⟩, ⟨b0, b1, b2⟩, c0, c1, c2⟩ := HSp.out W h; simp [go_sem, b2]⟩ ?_
        simp only [List.getElem_toArray, List.getElem_cons_succ, List.getElem_cons_zero, Act.put, List.setIfInBounds_toArray, List.set_cons_succ, List.set_cons_zero]
        refine wpMix_q (v := .pointer (some ⟨gc, 0, none⟩)) rfl rfl (fun _ _ _ h => h) HQ.out ⟨rfl, fun _ _ => by simp [go_sem]⟩ ?_
        simp only [List.getElem_toArray, List.getElem_cons_succ, List.getElem_cons_zero, Act.put, List.setIfInBounds_toArray, List.set_cons_succ, List.set_cons_zero]
        refine wpMix_q (v := .int .i64 r1) rfl rfl (fun _ _ _ h => h) HQ.out ⟨rfl, fun W h => by obtain ⟨⟨a0, a1, a2⟩, ⟨b0, b1, b2⟩, c0, c1, c2⟩ := HSp.out W h; simp [go_sem, c0]⟩ ?_
        simp only [List.getElem_toArray, List.getElem_cons_succ, List.getElem_cons_zero, Act.put, List.setIfInBounds_toArray, List.set_cons_succ, List.set_cons_zero]
        refine wpMix_q (v := .func (.func 56) #[] #[]) rfl rfl (fun _ _ _ h => h) HQ.out ⟨rfl, fun _ _ => by simp [go_sem]⟩ ?_
        simp only [List.getElem_toArray, List.getElem_cons_succ, List.getElem_cons_zero, Act.put, List.setIfInBounds_toArray, List.set_cons_succ, List.set_cons_zero]
        refine wpMix_q (v := .pointer (some ⟨ga, 2, none⟩)) rfl rfl (fun _ _ _ h => h) HQ.out ⟨rfl, fun _ _ => by simp [go_sem]⟩ ?_
        simp only [List.getElem_toArray, List.getElem_cons_succ, List.getElem_cons_zero, Act.put, List.setIfInBounds_toArray, List.set_cons_succ, List.set_cons_zero]
        refine wpMix_q (v := .int .i64 p3) rfl rfl (fun _ _ _ h => h) HQ.out ⟨rfl, fun W h => by obtain ⟨⟨a0, a1, a2⟩, ⟨b0, b1, b2⟩, c0, c1, c2⟩ := HSp.out W h; simp [go_sem, a2]⟩ ?_
        simp only [List.getElem_toArray, List.getElem_cons_succ, List.getElem_cons_zero, Act.put, List.setIfInBounds_toArray, List.set_cons_succ, List.set_cons_zero]
        refine wpMix_q (v := .pointer (some ⟨gb, 0, none⟩)) rfl rfl (fun _ _ _ h => h) HQ.out ⟨rfl, fun _ _ => by simp [go_sem]⟩ ?_
        simp only [List.getElem_toArray, List.getElem_cons_succ, List.getElem_cons_zero, Act.put, List.setIfInBounds_toArray, List.set_cons_succ, List.set_cons_zero]
        refine wpMix_q (v := .int .i64 q1) rfl rfl (fun _ _ _ h => h) HQ.out ⟨rfl, fun W h => by obtain ⟨⟨a0, a1, a2⟩, ⟨b0, b1, b2⟩, c0, c1, c2⟩ := HSp.out W h; simp [go_sem, b0]⟩ ?_
        simp only [List.getElem_toArray, List.getElem_cons_succ, List.getElem_cons_zero, Act.put, List.setIfInBounds_toArray, List.set_cons_succ, List.set_cons_zero]
        refine wpMix_q (v := .pointer (some ⟨gc, 1, none⟩)) rfl rfl (fun _ _ _ h => h) HQ.out ⟨rfl, fun _ _ => by simp [go_sem]⟩ ?_
        simp only [List.getElem_toArray, List.getElem_cons_succ, List.getElem_cons_zero, Act.put, List.setIfInBounds_toArray, List.set_cons_succ, List.set_cons_zero]
        refine wpMix_q (v := .int .i64 r2) rfl rfl (fun _ _ _ h => h) HQ.out ⟨rfl, fun W h => by obtain ⟨⟨a0, a1, a2⟩, ⟨b0, b1, b2⟩, c0, c1, c2⟩ := HSp.out W h; simp [go_sem, c1]⟩ ?_
        simp only [List.getElem_toArray, List.getElem_cons_succ, List.getElem_cons_zero, Act.put, List.setIfInBounds_toArray, List.set_cons_succ, List.set_cons_zero]
        refine wpMix_q (v := .int .i64 0) rfl rfl (fun _ _ _ h => h) HQ.out ⟨rfl, fun _ _ => by simp [go_sem]⟩ ?_
        simp only [List.getElem_toArray, List.getElem_cons_succ, List.getElem_cons_zero, Act.put, List.setIfInBounds_toArray, List.set_cons_succ, List.set_cons_zero]
        refine wpMix_n rfl rfl ?_
        go_wp2_with fail
        with_reducible refine (HC.out.1 U.drew).mono ?_
        rintro e w1 ⟨b1, s1, rfl, hW, hB⟩
        have hV1 := (HU.out.1).on ((Below.refl U.heap.size U).drew.trans hB)
        have hs1 := (HU.out.2.1).below ((Below.refl U.heap.size U).drew.trans hB) (HU.out.2.1).lt
        have H1 := hide (And.intro hW (And.intro hV1 hs1))
        clear hW hB hV1 hs1
        go_wp2_with fail
        refine ⟨fun _ => ⟨H1.out.2.1.pa, H1.out.2.1.pb, H1.out.2.1.pc⟩, ?_⟩
        refine wpMix_n rfl rfl ?_
        go_wp2_with fail
        with_reducible refine (HC.out.2.1 w1).mono ?_
        rintro e w2 ⟨b2, s2, rfl, hW, hB⟩
        have hV1 := H1.out.2.1.on hB
        have hs1 := H1.out.2.2.below hB H1.out.2.2.lt
        have H2 := hide (And.intro hW (And.intro hV1 hs1))
        clear hW hB hV1 hs1
        go_wp2_with fail
        refine ⟨fun _ => ⟨H2.out.2.1.pa, H2.out.2.1.pb, H2.out.2.1.pc⟩, ?_⟩
        refine wpMix_n rfl rfl ?_
        go_wp2_with fail
        with_reducible refine (HC.out.2.2.1 w2).mono ?_
        rintro e w3 ⟨b3, s3, rfl, hW, hB⟩
        have hV1 := H2.out.2.1.on hB
        have hs1 := H2.out.2.2.below hB H2.out.2.2.lt
        have H3 := hide (And.intro hW (And.intro hV1 hs1))
        clear hW hB hV1 hs1
        go_wp2_with fail
        refine ⟨fun _ => ⟨H3.out.2.1.pa, H3.out.2.1.pb, H3.out.2.1.pc⟩, ?_⟩
        refine wpMix_n rfl rfl ?_
        go_wp2_with fail
        obtain ⟨gs, hgs⟩ : ∃ g, g = w3.heap.size := ⟨_, rfl⟩
        obtain ⟨W4, hW4⟩ : ∃ W, W = w3.alloc (.cells #[.bool b1, .string s1, .bool b2, .string s2, .bool b3, .string s3] 46) := ⟨_, rfl⟩
        have hbs : Blk W4 gs 46 #[.bool b1, .string s1, .bool b2, .string s2, .bool b3, .string s3] := by rw [hW4, hgs]; exact Blk.new _ _ _
        have hb4 : Below w3.heap.size w3 W4 := by rw [hW4]; exact (Below.refl _ w3).alloc (Nat.le_refl _) _
        have hgsb : sb < gs := by rw [hgs]; exact H3.out.2.2.lt
        have H4 := hide (And.intro hbs (And.intro (H3.out.2.1.on hb4) (And.intro (H3.out.2.2.below hb4 H3.out.2.2.lt) hgsb)))
        rw [← hW4, ← hgs]
        clear hbs hb4 hW4 hgs hgsb HQ HSp
        refine ⟨fun _ => ⟨H4.out.2.1.pa, H4.out.2.1.pb, H4.out.2.1.pc⟩, ?_⟩
        refine wpMix_n rfl rfl ?_
        go_wp2_with fail
        refine ⟨fun _ => ⟨H4.out.2.1.pa, H4.out.2.1.pb, H4.out.2.1.pc⟩, wpMix_nil ?_⟩
        go_wp2_with fail
        go_loopw [52] (fun jv wr => ∃ (j : Nat) (b : Bool) (s : ByteArray), j ≤ 3 ∧ jv = .int .i64 j ∧ Blk wr sb 46 #[.bool b, .string s] ∧ WideN (.agg #[.bool b, .string s]) (S0 + sum3 x0 x1 x2 j) ∧ (S0 + sum3 x0 x1 x2 j).natAbs ≤ (6 * k + j) * Q ∧ Blk wr gs 46 #[.bool b1, .string s1, .bool b2, .string s2, .bool b3, .string s3] ∧ VolS w wr rb ga gb gc #[.int .i64 p1, .int .i64 p2, .int .i64 p3] #[.int .i64 q1, .int .i64 q2, .int .i64 q3] #[.int .i64 r1, .int .i64 r2, .int .i64 r3]) (fun jv _ => 3 - (intOf jv).toNat)
        case atStart => exact ⟨0, b0, s0, by omega, rfl, H4.out.2.2.1, by rw [show S0 + sum3 x0 x1 x2 0 = S0 by simp [sum3]]; exact HU.out.2.2.1, by rw [show S0 + sum3 x0 x1 x2 0 = S0 by simp [sum3]]; exact HU.out.2.2.2.1, H4.out.1, H4.out.2.1⟩
        case round =>
          obtain ⟨j, b5, s5, hj, rfl, hsb, hWs, hqs, hbs, hVs⟩ := hrel
          obtain ⟨R, rfl⟩ : ∃ V, V = wr := ⟨_, rfl⟩
          by_cases hj3 : j < 3
          · have i2 : (j : Int) < 3 := by omega
            obtain ⟨be, se, e0, e1, hWe⟩ := el3 hbs H1.out.1 H2.out.1 H3.out.1 hj3
            obtain ⟨r0, r1⟩ := hsb.duo4
            have hlt := hsb.lt
            have hle3 := tri3_le (x := x0) (y := x1) (z := x2) (Q := Q) HL.out.1 HL.out.2.1 HL.out.2.2.1 j
            have hnx := add_le hqs hle3 (m := 6 * k + (j + 1)) (by omega)
            have hsx : (S0 + sum3 x0 x1 x2 j).natAbs < 256 ^ 40 := Nat.lt_of_le_of_lt hqs (by rw [HX.out.2.2.2.2.2.2]; exact q63_small (by omega))
            have hsy : (tri3W x0 x1 x2 j).natAbs < 256 ^ 40 := Nat.lt_of_le_of_lt hle3 (by rw [HX.out.2.2.2.2.2.2]; have := q63_small (n := 1) (by omega); omega)
            have hcl := fun W => addN_any 40 _ _ _ _ hWs hWe (by omega) hsx hsy W
            rw [show S0 + sum3 x0 x1 x2 j + tri3W x0 x1 x2 j = S0 + sum3 x0 x1 x2 (j + 1) by rw [sum3_succ _ _ _ hj3]; omega] at hcl hnx
            have HR := hide (And.intro hsb (And.intro hbs (And.intro hVs (And.intro hcl hnx))))
            clear hsb hWs hqs hbs hVs hWe hle3 hnx hsx hsy hcl
            go_wp2_with fail
            with_reducible refine (HR.out.2.2.2.1 _).mono ?_
            rintro e w5 ⟨b6, s6, rfl, hW6, hB6⟩
            have hRB : Below R.heap.size R w5 := ((Below.refl _ R).alloc (Nat.le_refl _) _).trans (hB6.mono (by simp))
            have hs6 := HR.out.1.below hRB HR.out.1.lt
            have H6 := hide (And.intro hW6 (And.intro hs6 (And.intro (HR.out.2.1.below hRB HR.out.2.1.lt) (HR.out.2.2.1.on hRB))))
            clear r0 r1 hlt e0 e1 hB6 hRB hW6
            obtain ⟨r0, r1⟩ := hs6.duo4
            have hlt := hs6.lt
            have f0 := hs6.frozen 0
            have f1 := hs6.frozen 1
            clear hs6
            go_wp2
            go_roundw
            case rel => exact ⟨j + 1, b6, s6, by omega, by go_num, (H6.out.2.1.set_ 0 (.bool b6)).set_ 1 (.string s6), H6.out.1, HR.out.2.2.2.2, (H6.out.2.2.1.far (by have := H4.out.2.2.2; dsimp only; omega) _).far (by have := H4.out.2.2.2; dsimp only; omega) _, H6.out.2.2.2.put HU.out.2.2.2.2.1.1 HU.out.2.2.2.2.1.2.1 HU.out.2.2.2.2.1.2.2.1 HU.out.2.2.2.2.1.2.2.2.1 HU.out.2.2.2.2.1.2.2.2.2.1 _ _⟩
            case measure => (simp [intOf]; try omega)
          · obtain rfl : j = 3 := by omega
            have i2 : ¬ ((3 : Nat) : Int) < 3 := by omega
            obtain ⟨S1, hS1⟩ : ∃ S, S = S0 + sum3 x0 x1 x2 3 := ⟨_, rfl⟩
            rw [← hS1] at hWs hqs
            have HS1 := hide hS1
            have HR := hide (And.intro hVs (And.intro hsb (And.intro hWs hqs)))
            clear hVs hsb hWs hqs hbs hS1
            have HSp := hide (show ∀ W, (Blk W ga 41 #[.int .i64 p1, .int .i64 p2, .int .i64 p3] ∧ Blk W gb 41 #[.int .i64 q1, .int .i64 q2, .int .i64 q3] ∧ Blk W gc 41 #[.int .i64 r1, .int .i64 r2, .int .i64 r3]) → (W.cell? ⟨ga, 0, none⟩ = some (.int .i64 p1) ∧ W.cell? ⟨ga, 1, none⟩ = some (.int .i64 p2) ∧ W.cell? ⟨ga, 2, none⟩ = some (.int .i64 p3)) ∧ (W.cell? ⟨gb, 0, none⟩ = some (.int .i64 q1) ∧ W.cell? ⟨gb, 1, none⟩ = some (.int .i64 q2) ∧ W.cell? ⟨gb, 2, none⟩ = some (.int .i64 q3)) ∧ W.cell? ⟨gc, 0, none⟩ = some (.int .i64 r1) ∧ W.cell? ⟨gc, 1, none⟩ = some (.int .i64 r2) ∧ W.cell? ⟨gc, 2, none⟩ = some (.int .i64 r3) from fun W h => ⟨⟨h.1.cell 0, h.1.cell 1, h.1.cell 2⟩, ⟨h.2.1.cell 0, h.2.1.cell 1, h.2.1.cell 2⟩, h.2.2.cell 0, h.2.2.cell 1, h.2.2.cell 2⟩)
            have hVd : VolS w R.drew rb ga gb gc #[.int .i64 p1, .int .i64 p2, .int .i64 p3] #[.int .i64 q1, .int .i64 q2, .int .i64 q3] #[.int .i64 r1, .int .i64 r2, .int .i64 r3] := (HR.out.1).on (Below.refl _ R).drew
            have HQ := hide (And.intro hVd.pa (And.intro hVd.pb hVd.pc))
            clear hVd
            go_upto_region 12 with fail
            refine wp_region_mix (fun W => Blk W ga 41 #[.int .i64 p1, .int .i64 p2, .int .i64 p3] ∧ Blk W gb 41 #[.int .i64 q1, .int .i64 q2, .int .i64 q3] ∧ Blk W gc 41 #[.int .i64 r1, .int .i64 r2, .int .i64 r3]) [0, 1, 2, 3, 4, 5, 6, 8, 9, 10, 11, 12, 13, 14, 16, 17, 18, 19, 20, 21, 22, 26] [0, 1, 2, 3, 4, 5, 6, 8, 9, 10, 11, 12, 13, 14, 16, 17, 18, 19, 20, 21, 22, 26, 7, 15, 23, 24, 25] mixed_ok (by kernel_rfl) ?_
            refine wpMix_q (v := .func (.func 56) #[] #[]) rfl rfl (fun _ _ _ h => h) HQ.out ⟨rfl, fun _ _ => by simp [go_sem]⟩ ?_
            simp only [List.getElem_toArray, List.getElem_cons_zero, Act.put, List.setIfInBounds_toArray, List.set_cons_succ, List.set_cons_zero]
            refine wpMix_q (v := .pointer (some ⟨ga, 0, none⟩)) rfl rfl (fun _ _ _ h => h) HQ.out ⟨rfl, fun _ _ => by simp [go_sem]⟩ ?_
            simp only [List.getElem_toArray, List.getElem_cons_succ, List.getElem_cons_zero, Act.put, List.setIfInBounds_toArray, List.set_cons_succ, List.set_cons_zero]
            refine wpMix_q (v := .int .i64 p1) rfl rfl (fun _ _ _ h => h) HQ.out ⟨rfl, fun W h => by obtain ⟨⟨a0, a1, a2⟩, ⟨b0, b1, b2⟩, c0, c1, c2⟩ := HSp.out W h; simp [go_sem, a0]⟩ ?_
            simp only [List.getElem_toArray, List.getElem_cons_succ, List.getElem_cons_zero, Act.put, List.setIfInBounds_toArray, List.set_cons_succ, List.set_cons_zero]
            refine wpMix_q (v := .pointer (some ⟨gb, 2, none⟩)) rfl rfl (fun _ _ _ h => h) HQ.out ⟨rfl, fun _ _ => by simp [go_sem]⟩ ?_
            simp only [List.getElem_toArray, List.getElem_cons_succ, List.getElem_cons_zero, Act.put, List.setIfInBounds_toArray, List.set_cons_succ, List.set_cons_zero]
            refine wpMix_q (v := .int .i64 q3) rfl rfl (fun _ _ _ h => h) HQ.out ⟨rfl, fun W h => by obtain ⟨⟨a0, a1, a2⟩, ⟨b0, b1, b2⟩, c0, c1, c2⟩ := HSp.out W h; simp [go_sem, b2]⟩ ?_
            simp only [List.getElem_toArray, List.getElem_cons_succ, List.getElem_cons_zero, Act.put, List.setIfInBounds_toArray, List.set_cons_succ, List.set_cons_zero]
            refine wpMix_q (v := .pointer (some ⟨gc, 1, none⟩)) rfl rfl (fun _ _ _ h => h) HQ.out ⟨rfl, fun _ _ => by simp [go_sem]⟩ ?_
            simp only [List.getElem_toArray, List.getElem_cons_succ, List.getElem_cons_zero, Act.put, List.setIfInBounds_toArray, List.set_cons_succ, List.set_cons_zero]
            refine wpMix_q (v := .int .i64 r2) rfl rfl (fun _ _ _ h => h) HQ.out ⟨rfl, fun W h => by obtain ⟨⟨a0, a1, a2⟩, ⟨b0, b1, b2⟩, c0, c1, c2⟩ := HSp.out W h; simp [go_sem, c1]⟩ ?_
            simp only [List.getElem_toArray, List.getElem_cons_succ, List.getElem_cons_zero, Act.put, List.setIfInBounds_toArray, List.set_cons_succ, List.set_cons_zero]
            refine wpMix_q (v := .func (.func 56) #[] #[]) rfl rfl (fun _ _ _ h => h) HQ.out ⟨rfl, fun _ _ => by simp [go_sem]⟩ ?_
            simp only [List.getElem_toArray, List.getElem_cons_succ, List.getElem_cons_zero, Act.put, List.setIfInBounds_toArray, List.set_cons_succ, List.set_cons_zero]
            refine wpMix_q (v := .pointer (some ⟨ga, 1, none⟩)) rfl rfl (fun _ _ _ h => h) HQ.out ⟨rfl, fun _ _ => by simp [go_sem]⟩ ?_
            simp only [List.getElem_toArray, List.getElem_cons_succ, List.getElem_cons_zero, Act.put, List.setIfInBounds_toArray, List.set_cons_succ, List.set_cons_zero]
            refine wpMix_q (v := .int .i64 p2) rfl rfl (fun _ _ _ h => h) HQ.out ⟨rfl, fun W h => by obtain ⟨⟨a0, a1, a2⟩, ⟨b0, b1, b2⟩, c0, c1, c2⟩ := HSp.out W h; simp [go_sem, a1]⟩ ?_
            simp only [List.getElem_toArray, List.getElem_cons_succ, List.getElem_cons_zero, Act.put, List.setIfInBounds_toArray, List.set_cons_succ, List.set_cons_zero]
            refine wpMix_q (v := .pointer (some ⟨gb, 0, none⟩)) rfl rfl (fun _ _ _ h => h) HQ.out ⟨rfl, fun _ _ => by simp [go_sem]⟩ ?_
            simp only [List.getElem_toArray, List.getElem_cons_succ, List.getElem_cons_zero, Act.put, List.setIfInBounds_toArray, List.set_cons_succ, List.set_cons_zero]
            refine wpMix_q (v := .int .i64 q1) rfl rfl (fun _ _ _ h => h) HQ.out ⟨rfl, fun W h => by obtain ⟨⟨a0, a1, a2⟩, ⟨b0, b1, b2⟩, c0, c1, c2⟩ := HSp.out W h; simp [go_sem, b0]⟩ ?_
            simp only [List.getElem_toArray, List.getElem_cons_succ, List.getElem_cons_zero, Act.put, List.setIfInBounds_toArray, List.set_cons_succ, List.set_cons_zero]
            refine wpMix_q (v := .pointer (some ⟨gc, 2, none⟩)) rfl rfl (fun _ _ _ h => h) HQ.out ⟨rfl, fun _ _ => by simp [go_sem]⟩ ?_
            simp only [List.getElem_toArray, List.getElem_cons_succ, List.getElem_cons_zero, Act.put, List.setIfInBounds_toArray, List.set_cons_succ, List.set_cons_zero]
            refine wpMix_q (v := .int .i64 r3) rfl rfl (fun _ _ _ h => h) HQ.out ⟨rfl, fun W h => by obtain ⟨⟨a0, a1, a2⟩, ⟨b0, b1, b2⟩, c0, c1, c2⟩ := HSp.out W h; simp [go_sem, c2]⟩ ?_
            simp only [List.getElem_toArray, List.getElem_cons_succ, List.getElem_cons_zero, Act.put, List.setIfInBounds_toArray, List.set_cons_succ, List.set_cons_zero]
            refine wpMix_q (v := .func (.func 56) #[] #[]) rfl rfl (fun _ _ _ h => h) HQ.out ⟨rfl, fun _ _ => by simp [go_sem]⟩ ?_
            simp only [List.getElem_toArray, List.getElem_cons_succ, List.getElem_cons_zero, Act.put, List.setIfInBounds_toArray, List.set_cons_succ, List.set_cons_zero]
            refine wpMix_q (v := .pointer (some ⟨ga, 2, none⟩)) rfl rfl (fun _ _ _ h => h) HQ.out ⟨rfl, fun _ _ => by simp [go_sem]⟩ ?_
            simp only [List.getElem_toArray, List.getElem_cons_succ, List.getElem_cons_zero, Act.put, List.setIfInBounds_toArray, List.set_cons_succ, List.set_cons_zero]
            refine wpMix_q (v := .int .i64 p3) rfl rfl (fun _ _ _ h => h) HQ.out ⟨rfl, fun W h => by obtain ⟨⟨a0, a1, a2⟩, ⟨b0, b1, b2⟩, c0, c1, c2⟩ := HSp.out W h; simp [go_sem, a2]⟩ ?_
            simp only [List.getElem_toArray, List.getElem_cons_succ, List.getElem_cons_zero, Act.put, List.setIfInBounds_toArray, List.set_cons_succ, List.set_cons_zero]
            refine wpMix_q (v := .pointer (some ⟨gb, 1, none⟩)) rfl rfl (fun _ _ _ h => h) HQ.out ⟨rfl, fun _ _ => by simp [go_sem]⟩ ?_
            simp only [List.getElem_toArray, List.getElem_cons_succ, List.getElem_cons_zero, Act.put, List.setIfInBounds_toArray, List.set_cons_succ, List.set_cons_zero]
            refine wpMix_q (v := .int .i64 q2) rfl rfl (fun _ _ _ h => h) HQ.out ⟨rfl, fun W h => by obtain ⟨⟨a0, a1, a2⟩, ⟨b0, b1, b2⟩, c0, c1, c2⟩ := HSp.out W h; simp [go_sem, b1]⟩ ?_
            simp only [List.getElem_toArray, List.getElem_cons_succ, List.getElem_cons_zero, Act.put, List.setIfInBounds_toArray, List.set_cons_succ, List.set_cons_zero]
            refine wpMix_q (v := .pointer (some ⟨gc, 0, none⟩)) rfl rfl (fun _ _ _ h => h) HQ.out ⟨rfl, fun _ _ => by simp [go_sem]⟩ ?_
            simp only [List.getElem_toArray, List.getElem_cons_succ, List.getElem_cons_zero, Act.put, List.setIfInBounds_toArray, List.set_cons_succ, List.set_cons_zero]
            refine wpMix_q (v := .int .i64 r1) rfl rfl (fun _ _ _ h => h) HQ.out ⟨rfl, fun W h => by obtain ⟨⟨a0, a1, a2⟩, ⟨b0, b1, b2⟩, c0, c1, c2⟩ := HSp.out W h; simp [go_sem, c0]⟩ ?_
            simp only [List.getElem_toArray, List.getElem_cons_succ, List.getElem_cons_zero, Act.put, List.setIfInBounds_toArray, List.set_cons_succ, List.set_cons_zero]
            refine wpMix_q (v := .int .i64 0) rfl rfl (fun _ _ _ h => h) HQ.out ⟨rfl, fun _ _ => by simp [go_sem]⟩ ?_
            simp only [List.getElem_toArray, List.getElem_cons_succ, List.getElem_cons_zero, Act.put, List.setIfInBounds_toArray, List.set_cons_succ, List.set_cons_zero]
            refine wpMix_n rfl rfl ?_
            go_wp2_with fail
            with_reducible refine (HC.out.2.2.2.1 R.drew).mono ?_
            rintro e v1 ⟨d1, t1, rfl, hW, hB⟩
            have hV1 := (HR.out.1).on ((Below.refl R.heap.size R).drew.trans hB)
            have hs1 := (HR.out.2.1).below ((Below.refl R.heap.size R).drew.trans hB) (HR.out.2.1).lt
            have K1 := hide (And.intro hW (And.intro hV1 hs1))
            clear hW hB hV1 hs1
            go_wp2_with fail
            refine ⟨fun _ => ⟨K1.out.2.1.pa, K1.out.2.1.pb, K1.out.2.1.pc⟩, ?_⟩
            refine wpMix_n rfl rfl ?_
            go_wp2_with fail
            with_reducible refine (HC.out.2.2.2.2.1 v1).mono ?_
            rintro e v2 ⟨d2, t2, rfl, hW, hB⟩
            have hV1 := K1.out.2.1.on hB
            have hs1 := K1.out.2.2.below hB K1.out.2.2.lt
            have K2 := hide (And.intro hW (And.intro hV1 hs1))
            clear hW hB hV1 hs1
            go_wp2_with fail
            refine ⟨fun _ => ⟨K2.out.2.1.pa, K2.out.2.1.pb, K2.out.2.1.pc⟩, ?_⟩
            refine wpMix_n rfl rfl ?_
            go_wp2_with fail
            with_reducible refine (HC.out.2.2.2.2.2 v2).mono ?_
            rintro e v3 ⟨d3, t3, rfl, hW, hB⟩
            have hV1 := K2.out.2.1.on hB
            have hs1 := K2.out.2.2.below hB K2.out.2.2.lt
            have K3 := hide (And.intro hW (And.intro hV1 hs1))
            clear hW hB hV1 hs1
            go_wp2_with fail
            refine ⟨fun _ => ⟨K3.out.2.1.pa, K3.out.2.1.pb, K3.out.2.1.pc⟩, ?_⟩
            refine wpMix_n rfl rfl ?_
            go_wp2_with fail
            obtain ⟨gs2, hgs2⟩ : ∃ g, g = v3.heap.size := ⟨_, rfl⟩
            obtain ⟨V4, hV4⟩ : ∃ W, W = v3.alloc (.cells #[.bool d1, .string t1, .bool d2, .string t2, .bool d3, .string t3] 46) := ⟨_, rfl⟩
            have hbs : Blk V4 gs2 46 #[.bool d1, .string t1, .bool d2, .string t2, .bool d3, .string t3] := by rw [hV4, hgs2]; exact Blk.new _ _ _
            have hb4 : Below v3.heap.size v3 V4 := by rw [hV4]; exact (Below.refl _ v3).alloc (Nat.le_refl _) _
            have hgsb : sb < gs2 := by rw [hgs2]; exact K3.out.2.2.lt
            have K4 := hide (And.intro hbs (And.intro (K3.out.2.1.on hb4) (And.intro (K3.out.2.2.below hb4 K3.out.2.2.lt) hgsb)))
            rw [← hV4, ← hgs2]
            clear hbs hb4 hV4 hgs2 hgsb HQ HSp
            refine ⟨fun _ => ⟨K4.out.2.1.pa, K4.out.2.1.pb, K4.out.2.1.pc⟩, ?_⟩
            refine wpMix_n rfl rfl ?_
            go_wp2_with fail
            refine ⟨fun _ => ⟨K4.out.2.1.pa, K4.out.2.1.pb, K4.out.2.1.pc⟩, wpMix_nil ?_⟩
            go_wp2_with fail
            go_loopw [86] (fun jv wr => ∃ (j : Nat) (b : Bool) (s : ByteArray), j ≤ 3 ∧ jv = .int .i64 j ∧ Blk wr sb 46 #[.bool b, .string s] ∧ WideN (.agg #[.bool b, .string s]) (S1 - sum3 y0 y1 y2 j) ∧ (S1 - sum3 y0 y1 y2 j).natAbs ≤ ((6 * k + 3) + j) * Q ∧ Blk wr gs2 46 #[.bool d1, .string t1, .bool d2, .string t2, .bool d3, .string t3] ∧ VolS w wr rb ga gb gc #[.int .i64 p1, .int .i64 p2, .int .i64 p3] #[.int .i64 q1, .int .i64 q2, .int .i64 q3] #[.int .i64 r1, .int .i64 r2, .int .i64 r3]) (fun jv _ => 3 - (intOf jv).toNat)
            case atStart => exact ⟨0, b5, s5, by omega, rfl, K4.out.2.2.1, by rw [show S1 - sum3 y0 y1 y2 0 = S1 by simp [sum3]]; exact HR.out.2.2.1, by rw [show S1 - sum3 y0 y1 y2 0 = S1 by simp [sum3]]; exact HR.out.2.2.2, K4.out.1, K4.out.2.1⟩
            case round =>
              obtain ⟨j, b8, s8, hj, rfl, hsb, hWs, hqs, hbs, hVs⟩ := hrel
              obtain ⟨R, rfl⟩ : ∃ V, V = wr := ⟨_, rfl⟩
              by_cases hj3 : j < 3
              · have i2 : (j : Int) < 3 := by omega
                obtain ⟨be, se, e0, e1, hWe⟩ := el3 hbs K1.out.1 K2.out.1 K3.out.1 hj3
                obtain ⟨r0, r1⟩ := hsb.duo4
                have hlt := hsb.lt
                have hle3 := tri3_le (x := y0) (y := y1) (z := y2) (Q := Q) HL.out.2.2.2.1 HL.out.2.2.2.2.1 HL.out.2.2.2.2.2 j
                have hnx := sub_le hqs hle3 (m := (6 * k + 3) + (j + 1)) (by omega)
                have hsx : (S1 - sum3 y0 y1 y2 j).natAbs < 256 ^ 40 := Nat.lt_of_le_of_lt hqs (by rw [HX.out.2.2.2.2.2.2]; exact q63_small (by omega))
                have hsy : (tri3W y0 y1 y2 j).natAbs < 256 ^ 40 := Nat.lt_of_le_of_lt hle3 (by rw [HX.out.2.2.2.2.2.2]; have := q63_small (n := 1) (by omega); omega)
                have hcl := fun W => subN_any 40 _ _ _ _ hWs hWe (by omega) hsx hsy W
                rw [show S1 - sum3 y0 y1 y2 j - tri3W y0 y1 y2 j = S1 - sum3 y0 y1 y2 (j + 1) by rw [sum3_succ _ _ _ hj3]; omega] at hcl hnx
                have HR := hide (And.intro hsb (And.intro hbs (And.intro hVs (And.intro hcl hnx))))
                clear hsb hWs hqs hbs hVs hWe hle3 hnx hsx hsy hcl
                go_wp2_with fail
                with_reducible refine (HR.out.2.2.2.1 _).mono ?_
                rintro e w5 ⟨b6, s6, rfl, hW6, hB6⟩
                have hRB : Below R.heap.size R w5 := ((Below.refl _ R).alloc (Nat.le_refl _) _).trans (hB6.mono (by simp))
                have hs6 := HR.out.1.below hRB HR.out.1.lt
                have H6 := hide (And.intro hW6 (And.intro hs6 (And.intro (HR.out.2.1.below hRB HR.out.2.1.lt) (HR.out.2.2.1.on hRB))))
                clear r0 r1 hlt e0 e1 hB6 hRB hW6
                obtain ⟨r0, r1⟩ := hs6.duo4
                have hlt := hs6.lt
                have f0 := hs6.frozen 0
                have f1 := hs6.frozen 1
                clear hs6
                go_wp2
                go_roundw
                case rel => exact ⟨j + 1, b6, s6, by omega, by go_num, (H6.out.2.1.set_ 0 (.bool b6)).set_ 1 (.string s6), H6.out.1, HR.out.2.2.2.2, (H6.out.2.2.1.far (by have := K4.out.2.2.2; dsimp only; omega) _).far (by have := K4.out.2.2.2; dsimp only; omega) _, H6.out.2.2.2.put HU.out.2.2.2.2.1.1 HU.out.2.2.2.2.1.2.1 HU.out.2.2.2.2.1.2.2.1 HU.out.2.2.2.2.1.2.2.2.1 HU.out.2.2.2.2.1.2.2.2.2.1 _ _⟩
                case measure => (simp [intOf]; try omega)
              · obtain rfl : j = 3 := by omega
                have i2 : ¬ ((3 : Nat) : Int) < 3 := by omega
                have hfin : vol6 (ts.take (k + 1)) = S1 - sum3 y0 y1 y2 3 := by
                  have h1 := HU.out.2.2.2.2.2
                  have h2 := HS1.out
                  have h3 : sum3 x0 x1 x2 3 = x0 + x1 + x2 := rfl
                  have h4 : sum3 y0 y1 y2 3 = y0 + y1 + y2 := rfl
                  omega
                rw [← hfin] at hWs hqs
                rw [show 6 * k + 3 + 3 = 6 * (k + 1) by omega] at hqs
                have HE := hide (And.intro hsb (And.intro hWs (And.intro hqs hVs)))
                clear hsb hWs hqs hVs hbs hfin
                go_wp2
                go_roundw
                case rel => exact ⟨k + 1, b8, s8, by omega, by go_num, HE.out.1, HE.out.2.1, HE.out.2.2.1, HE.out.2.2.2.ret, HE.out.2.2.2.bel⟩
                case measure => (simp [intOf]; try omega)
    · obtain rfl : k = M := by omega
      have i1 : ¬ (k : Int) < (k : Int) := by omega
      obtain ⟨V, rfl⟩ : ∃ x, x = V := ⟨_, rfl⟩
      rw [List.take_of_length_le (by rw [← HS.out.2.2]; exact Nat.le_refl _)] at hW
      obtain ⟨r0, r1⟩ := hb.duo4
      obtain ⟨u0, u1⟩ := hr.duo4
      have f0 := hr.frozen 0
      have f1 := hr.frozen 1
      have hlt := hr.lt
      have hlt2 := hb.lt
      have HE := hide (And.intro hb (And.intro hW (And.intro hr hB)))
      clear hb hW hr hB hq
      go_wp2
      refine ret_at (v := .agg #[.bool b0, .string s0]) (fun W => Blk W rb 46 #[.bool b0, .string s0]) ?_ (fun W h => ?_) rfl ⟨_, rfl, HE.out.2.1, ?_⟩
      · exact (HE.out.2.2.1.set_ 0 (.bool b0)).set_ 1 (.string s0)
      · have a0 := h.cell 0
        have a1 := h.cell 1
        simp only [List.getElem?_toArray, List.getElem?_cons_zero, List.getElem?_cons_succ] at a0 a1
        simp [results, Tryz.results26, go_sem, a0, a1]
      · have := HX.out.2.2.2.1
        exact (HE.out.2.2.2.setCell (by dsimp only; omega) _).setCell (by dsimp only; omega) _
end Go.Proofs.YtelfnmohpjkilaaGreatDoor
