/- Joined texts: Pre Anc. -/
import Derived.Test.YtgndbpkgehjelaaRows
import Derived.Handy
import Derived.Test.YtgndbpkgehjelaaCB3
/- Facts of this program's tables: indexing a triangle, sizes. -/
namespace Go.Proofs.Ytgndbpkgehjelaa
open Go.RowKit
theorem idxT0 (a b c d e f g h i : Value) (w : World) : (Instr.index 26 (.agg #[a, b, c, d, e, f, g, h, i]) (.int .i64 0)).run Try.prog w = .ok (.agg #[a, b, c]) w := by kernel_rfl
theorem idxT1 (a b c d e f g h i : Value) (w : World) : (Instr.index 26 (.agg #[a, b, c, d, e, f, g, h, i]) (.int .i64 1)).run Try.prog w = .ok (.agg #[d, e, f]) w := by kernel_rfl
theorem idxT2 (a b c d e f g h i : Value) (w : World) : (Instr.index 26 (.agg #[a, b, c, d, e, f, g, h, i]) (.int .i64 2)).run Try.prog w = .ok (.agg #[g, h, i]) w := by kernel_rfl
def corner (t : Tri) (j : Nat) : Pt := if j = 0 then t.1 else if j = 1 then t.2.1 else t.2.2
theorem idxT (t : Tri) (j : Nat) (hj : j < 3) (w : World) : (Instr.index 26 (vT t) (.int .i64 j)).run Try.prog w = .ok (vP (corner t j)) w := by
  have : j = 0 ∨ j = 1 ∨ j = 2 := by omega
  rcases this with rfl | rfl | rfl
  · exact idxT0 _ _ _ _ _ _ _ _ _ w
  · exact idxT1 _ _ _ _ _ _ _ _ _ w
  · exact idxT2 _ _ _ _ _ _ _ _ _ w
def fits (c : Int) : Prop := -9223372036854775808 ≤ c ∧ c ≤ 9223372036854775807
def fitsP (p : Pt) : Prop := fits p.1 ∧ fits p.2.1 ∧ fits p.2.2
def fitsT (t : Tri) : Prop := fitsP t.1 ∧ fitsP t.2.1 ∧ fitsP t.2.2
theorem mixed_ok : Try.prog.follows .mixedOrders = true := by kernel_rfl
end Go.Proofs.Ytgndbpkgehjelaa
namespace Go.Proofs.Ytgndbpkgehjelaa
open Go.RowKit
def ancP (a p : Pt) : Pt := (if p.1 < a.1 then p.1 else a.1, if p.2.1 < a.2.1 then p.2.1 else a.2.1, if p.2.2 < a.2.2 then p.2.2 else a.2.2)
def ancN (a : Pt) (t : Tri) : Nat → Pt
  | 0 => a
  | j + 1 => ancP (ancN a t j) (corner t j)
def ancT (a : Pt) (t : Tri) : Pt := ancN a t 3
def anc : List Tri → Pt
  | [] => (0, 0, 0)
  | t :: ts => (t :: ts).foldl ancT t.1
def ancW (a : Pt) (ts : List Tri) : Pt := ts.foldl ancT a
theorem ancW_snoc (a : Pt) (ts : List Tri) (k : Nat) (t : Tri) (h : ts[k]? = some t) : ancW a (ts.take (k + 1)) = ancT (ancW a (ts.take k)) t := by
  unfold ancW
  rw [List.take_add_one, h]
  simp
set_option maxHeartbeats 1000000 in
set_option maxRecDepth 100000 in
theorem anchor_any (A : Option Addr) (c : Nat) (ts : List Tri) (w : World) (hs : Sl encT 9 w w.heap.size A ts) (hl : ts.length ≤ maxLen) :
    Calls Try.prog 32 #[.slice A ts.length c] w fun e w' => e = .returned (vP (anc ts)) ∧ Below w.heap.size w w' := by
  unfold maxLen at hl
  rcases ts with _ | ⟨t, ts⟩
  · go_enter Try.func32, Try.ntmps32
    have h0 : (((([] : List Tri).length : Nat) : Int) == 0) = true := rfl
    go_wp2
    go_returns
    exact ⟨rfl, by go_grown⟩
  · obtain ⟨b, o, rfl, hb, hc0⟩ := hs.tri (i := 0) (t := t) rfl
    simp only [Nat.zero_mul, Nat.add_zero] at hc0
    simp only [List.length_cons] at hl
    obtain ⟨h0, h1, h2, h3, h4, h5, h6, h7, h8⟩ := hc0
    have hz : (((ts.length : Nat) : Int) + 1 == 0) = false := by simp; omega
    obtain ⟨l, hle⟩ : ∃ l, l = t :: ts := ⟨_, rfl⟩
    have hlen : l.length = ts.length + 1 := by rw [hle]; rfl
    rw [← hle] at hs
    have HL := hide hle
    have HLen := hide hlen
    clear hle hlen
    go_enter Try.func32, Try.ntmps32
    go_wp2
    go_loopw [18] (fun i wr => ∃ (k : Nat) (a : Pt), k ≤ ts.length + 1 ∧ i = .int .i64 k ∧ a = ancW t.1 (l.take k) ∧ Below w.heap.size w wr ∧
        Blk wr (w.heap.size) 23 #[.int .i64 0, .int .i64 0, .int .i64 0] ∧
        Blk wr (w.heap.size + 1) 23 #[.int .i64 a.1, .int .i64 a.2.1, .int .i64 a.2.2]) (fun i _ => ts.length + 1 - (intOf i).toNat)
    case atStart => exact ⟨0, t.1, by omega, rfl, by simp [ancW], by go_grown, (Blk.new _ _ _).alloc _, Blk.new' _ _ _ _ (by simp)⟩
    case round =>
      obtain ⟨k, a, hk, rfl, ha, hB, b0, b1⟩ := hrel
      have HA := hide ha
      clear ha
      have hz0 := b0.lt
      have hz1 := b1.lt
      by_cases hlt : k < ts.length + 1
      · obtain ⟨u, hu⟩ : ∃ u, l[k]? = some u := ⟨_, List.getElem?_eq_getElem (by rw [HLen.out]; exact hlt)⟩
        have hsw := hs.below hB
        obtain ⟨b', o', he, hb', g0, g1, g2, g3, g4, g5, g6, g7, g8⟩ := hsw.tri hu
        obtain ⟨rfl, rfl⟩ : b = b' ∧ o = o' := by injection he with he; injection he with e1 e2; exact ⟨e1, e2⟩
        have HU := hide hu
        have HS := hide hs
        clear hu hs hsw he h0 h1 h2 h3 h4 h5 h6 h7 h8
        have HB0 := hide b0
        have HB1 := hide b1
        clear b0 b1
        go_wp2
        obtain ⟨wo, rfl⟩ : ∃ wo : World, wo = wr := ⟨_, rfl⟩
        go_loopw [23] (fun i wr => ∃ (j : Nat) (a' : Pt), j ≤ 3 ∧ i = .int .i64 j ∧ a' = ancN a u j ∧ Below w.heap.size w wr ∧
          Blk wr (w.heap.size) 23 #[.int .i64 0, .int .i64 0, .int .i64 0] ∧
          Blk wr (w.heap.size + 1) 23 #[.int .i64 a'.1, .int .i64 a'.2.1, .int .i64 a'.2.2]) (fun i _ => 3 - (intOf i).toNat)
        case atStart => exact ⟨0, a, by omega, rfl, rfl, hB.alloc (by omega) _, HB0.out.alloc _, HB1.out.alloc _⟩
        case round =>
          obtain ⟨j, a', hj, rfl, ha', hB', b0, b1⟩ := hrel
          have HA' := hide ha'
          have HB := hide hB
          clear ha' hB HB0 HB1
          have hz0 := b0.lt
          have hz1 := b1.lt
          have c0 : wr.cell? ⟨w.heap.size + 1, 0, none⟩ = some (.int .i64 a'.1) := b1.cell 0
          have c1 : wr.cell? ⟨w.heap.size + 1, 1, none⟩ = some (.int .i64 a'.2.1) := b1.cell 1
          have c2 : wr.cell? ⟨w.heap.size + 1, 2, none⟩ = some (.int .i64 a'.2.2) := b1.cell 2
          have f0 := b1.frozen 0
          have f1 := b1.frozen 1
          have f2 := b1.frozen 2
          have HB0 := hide b0
          have HB1 := hide b1
          clear b0 b1
          by_cases hj3 : j < 3
          · have hi := idxT u j hj3
            go_wp2
            go_roundw
            case rel =>
              exact ⟨j + 1, ancP a' (corner u j), by omega, by go_num, by rw [HA'.out]; rfl, by go_grown, (HB0.out.far3 (by omega) _ _ _).alloc _, (HB1.out.set3 _ _ _).alloc _⟩
            case measure => simp [intOf]; omega
          · have hj : j = 3 := by omega
            subst hj
            go_wp2
            go_roundw
            case rel =>
              exact ⟨k + 1, a', by omega, by go_num, by rw [HA'.out, ancW_snoc _ _ _ _ HU.out, HA.out]; rfl, hB', HB0.out, HB1.out⟩
            case measure => simp [intOf]; omega
      · have hk : k = ts.length + 1 := by omega
        have c0 : wr.cell? ⟨w.heap.size + 1, 0, none⟩ = some (.int .i64 a.1) := b1.cell 0
        have c1 : wr.cell? ⟨w.heap.size + 1, 1, none⟩ = some (.int .i64 a.2.1) := b1.cell 1
        have c2 : wr.cell? ⟨w.heap.size + 1, 2, none⟩ = some (.int .i64 a.2.2) := b1.cell 2
        have d0 : wr.cell? ⟨w.heap.size, 0, none⟩ = some (.int .i64 0) := b0.cell 0
        have d1 : wr.cell? ⟨w.heap.size, 1, none⟩ = some (.int .i64 0) := b0.cell 1
        have d2 : wr.cell? ⟨w.heap.size, 2, none⟩ = some (.int .i64 0) := b0.cell 2
        have f0 := b0.frozen 0
        have f1 := b0.frozen 1
        have f2 := b0.frozen 2
        have hfin : a = anc (t :: ts) := by
          rw [HA.out, hk, List.take_of_length_le (by rw [HLen.out]; omega), HL.out]; rfl
        have HF := hide hfin
        have hsz := hB.size
        clear hfin hk h0 h1 h2 h3 h4 h5 h6 h7 h8 hs b0 b1
        go_wp2
        refine bodyPost_ret (v := vP a) (by simp [results, Try.results32, go_sem, d0, d1, d2]) rfl ⟨by rw [← HF.out], by go_grown⟩
end Go.Proofs.Ytgndbpkgehjelaa
