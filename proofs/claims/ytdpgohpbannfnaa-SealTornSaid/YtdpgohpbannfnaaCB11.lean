/- Joined texts: S7A S7B S7C S7D S9Z. -/
import Derived.IntWalk
import Derived.Deep.CutBlock
import Derived.Deep.DeepCutAuto
import Derived.Deep.MidRow
import Derived.Deep.RegionHeld3
import Derived.Deep.DrawnRows
import Derived.StillTailTactics
import Derived.Shelf.RegionOpen
import Derived.Shelf.SlSortCmp.NoneTotal
import Derived.Test.YtdpgohpbannfnaaCB1
import Derived.Test.YtdpgohpbannfnaaCB2
import Derived.Test.YtdpgohpbannfnaaCB3
import Derived.Test.YtdpgohpbannfnaaCB6
import Derived.Test.YtdpgohpbannfnaaCB7
import Derived.Test.YtdpgohpbannfnaaCB8
/- ref07: Side, at, others, inner; how faces and edges lie in memory. -/
namespace Go.Proofs.Ytdpgohpbannfnaa
open Go.RowKit
def encF (f : EF) : List Value := [.int .i64 f.1, .int .i64 f.2.1, .int .i64 f.2.2.1, .int .i64 f.2.2.2]
abbrev vF (f : EF) : Value := .agg #[.int .i64 f.1, .int .i64 f.2.1, .int .i64 f.2.2.1, .int .i64 f.2.2.2]
def fitsF (f : EF) : Prop := fits f.1 ∧ fitsP f.2
theorem encF_len (f : EF) : (encF f).length = 4 := rfl
/-! Arrays of three by their index. -/
theorem idxL0 (a b c : Value) (w : World) : (Instr.index 68 (.agg #[a, b, c]) (.int .i64 0)).run Try.prog w = .ok a w := by kernel_rfl
theorem idxL1 (a b c : Value) (w : World) : (Instr.index 68 (.agg #[a, b, c]) (.int .i64 1)).run Try.prog w = .ok b w := by kernel_rfl
theorem idxL2 (a b c : Value) (w : World) : (Instr.index 68 (.agg #[a, b, c]) (.int .i64 2)).run Try.prog w = .ok c w := by kernel_rfl
theorem idxA0 (a b c : Value) (w : World) : (Instr.index 42 (.agg #[a, b, c]) (.int .i64 0)).run Try.prog w = .ok a w := by kernel_rfl
theorem idxA1 (a b c : Value) (w : World) : (Instr.index 42 (.agg #[a, b, c]) (.int .i64 1)).run Try.prog w = .ok b w := by kernel_rfl
theorem idxA2 (a b c : Value) (w : World) : (Instr.index 42 (.agg #[a, b, c]) (.int .i64 2)).run Try.prog w = .ok c w := by kernel_rfl
def sideP (L : Int) : Nat := if 1 ≤ L ∧ L ≤ 8 then 2 ^ L.toNat + 1 else 0
set_option maxRecDepth 100000 in
set_option maxHeartbeats 4000000 in
theorem side7_any (L : Int) (w : World) : Calls Try.prog 20 #[.int .i64 L] w fun e w' => e = .returned (.int .i64 (sideP L : Nat)) ∧ w' = w := by
  by_cases h : 1 ≤ L ∧ L ≤ 8
  · have hc : L = 1 ∨ L = 2 ∨ L = 3 ∨ L = 4 ∨ L = 5 ∨ L = 6 ∨ L = 7 ∨ L = 8 := by omega
    rcases hc with rfl | rfl | rfl | rfl | rfl | rfl | rfl | rfl <;> (
      go_enter Try.func20, Try.ntmps20
      go_wp2
      go_ret
      exact ⟨by kernel_rfl, rfl⟩)
  · have e : sideP L = 0 := if_neg h
    rw [e]
    by_cases h1 : L < 1
    · go_enter Try.func20, Try.ntmps20
      go_wp2
      go_ret
      exact ⟨rfl, rfl⟩
    · have h2 : 8 < L := by omega
      go_enter Try.func20, Try.ntmps20
      go_wp2
      go_ret
      exact ⟨rfl, rfl⟩
end Go.Proofs.Ytdpgohpbannfnaa
/- seal: face, from, moved, inner (printed by mk_S7B.py). -/
namespace Go.Proofs.Ytdpgohpbannfnaa
open Go.RowKit Go.Sort
theorem Blk.four {W : World} {g : Nat} {t : TypeId} {a b c d : Value} (h : Blk W g t #[a, b, c, d]) : W.cell? ⟨g, 0, none⟩ = some a ∧ W.cell? ⟨g, 1, none⟩ = some b ∧ W.cell? ⟨g, 2, none⟩ = some c ∧ W.cell? ⟨g, 3, none⟩ = some d :=
  ⟨h.cell 0, h.cell 1, h.cell 2, h.cell 3⟩
set_option maxRecDepth 100000 in
set_option maxHeartbeats 4000000 in
theorem face7_any (a : Int) (p : Pt) (w : World) : Calls Try.prog 47 #[.int .i64 a, vP p] w fun e w' => e = .returned (vF (a, p)) ∧ Lay w w' := by
  go_enter Try.func47, Try.ntmps47
  go_wp2
  refine ret_at (v := vF (a, p)) (fun W => Blk W (w.heap.size + 1) 45 #[.int .i64 a, .int .i64 p.1, .int .i64 p.2.1, .int .i64 p.2.2]) (Blk.new' _ _ _ _ (by simp)) (fun W h => ?_) rfl ⟨rfl, ((Lay.refl _).alloc _).alloc _⟩
  obtain ⟨a0, a1, a2, a3⟩ := h.four
  simp [results, Try.results47, go_sem, a0, a1, a2, a3]
set_option maxRecDepth 100000 in
set_option maxHeartbeats 4000000 in
theorem from7_any (f : EF) (w : World) : Calls Try.prog 43 #[vF f] w fun e w' => e = .returned (vP f.2) ∧ Lay w w' := by
  go_enter Try.func43, Try.ntmps43
  go_wp2
  refine ret_at (v := vP f.2) (fun W => Blk W (w.heap.size + 1) 68 #[.int .i64 f.2.1, .int .i64 f.2.2.1, .int .i64 f.2.2.2]) (Blk.new' _ _ _ _ (by simp)) (fun W h => ?_) rfl ⟨rfl, ((Lay.refl _).alloc _).alloc _⟩
  obtain ⟨a0, a1, a2⟩ := h.three
  simp [results, Try.results43, go_sem, a0, a1, a2]
/-- Coordinates that may be moved by one. -/
def midI (c : Int) : Prop := -1000000 ≤ c ∧ c ≤ 1000000
def midP7 (p : Pt) : Prop := midI p.1 ∧ midI p.2.1 ∧ midI p.2.2
set_option maxRecDepth 100000 in
set_option maxHeartbeats 4000000 in
theorem moved7_any (p : Pt) (a v : Int) (ha : a = 0 ∨ a = 1 ∨ a = 2) (hp : midP7 p) (hv : midI v) (w : World) : Calls Try.prog 44 #[vP p, .int .i64 a, .int .i64 v] w fun e w' => e = .returned (vP (add3 p a v)) ∧ Lay w w' := by
  obtain ⟨⟨h1, h2⟩, ⟨h3, h4⟩, h5, h6⟩ := hp
  obtain ⟨v1, v2⟩ := hv
  rcases ha with rfl | rfl | rfl
  · have e : add3 p 0 v = (p.1 + v, p.2.1, p.2.2) := rfl
    rw [e]
    clear e
    go_enter Try.func44, Try.ntmps44
    go_wp2
    refine ret_at (v := vP (p.1 + v, p.2.1, p.2.2)) (fun W => Blk W (w.heap.size + 1) 68 #[.int .i64 (p.1 + v), .int .i64 (p.2.1), .int .i64 (p.2.2)]) ?_ (fun W h => ?_) rfl ⟨rfl, ?_⟩
    · exact Blk.new' _ _ _ _ (by simp)
    · obtain ⟨a0, a1, a2⟩ := h.three
      simp [results, Try.results44, go_sem, a0, a1, a2]
    · exact ((Lay.refl _).alloc _).alloc _
  · have e : add3 p 1 v = (p.1, p.2.1 + v, p.2.2) := rfl
    rw [e]
    clear e
    go_enter Try.func44, Try.ntmps44
    go_wp2
    refine ret_at (v := vP (p.1, p.2.1 + v, p.2.2)) (fun W => Blk W (w.heap.size + 1) 68 #[.int .i64 (p.1), .int .i64 (p.2.1 + v), .int .i64 (p.2.2)]) ?_ (fun W h => ?_) rfl ⟨rfl, ?_⟩
    · exact Blk.new' _ _ _ _ (by simp)
    · obtain ⟨a0, a1, a2⟩ := h.three
      simp [results, Try.results44, go_sem, a0, a1, a2]
    · exact ((Lay.refl _).alloc _).alloc _
  · have e : add3 p 2 v = (p.1, p.2.1, p.2.2 + v) := rfl
    rw [e]
    clear e
    go_enter Try.func44, Try.ntmps44
    go_wp2
    refine ret_at (v := vP (p.1, p.2.1, p.2.2 + v)) (fun W => Blk W (w.heap.size + 1) 68 #[.int .i64 (p.1), .int .i64 (p.2.1), .int .i64 (p.2.2 + v)]) ?_ (fun W h => ?_) rfl ⟨rfl, ?_⟩
    · exact Blk.new' _ _ _ _ (by simp)
    · obtain ⟨a0, a1, a2⟩ := h.three
      simp [results, Try.results44, go_sem, a0, a1, a2]
    · exact ((Lay.refl _).alloc _).alloc _
/-- The sealer in its box: its size, its set. -/
def okA (n : Int) (e : EF) (j : Nat) : Bool := decide (0 ≤ cmp3 e.2 j ∧ cmp3 e.2 j < n ∧ (e.1 = j ∨ cmp3 e.2 j ≠ 0))
theorem innE_ok (n : Int) (e : EF) : innE n e = (decide (0 ≤ e.1 ∧ e.1 < 3) && (okA n e 0 && (okA n e 1 && okA n e 2))) := rfl
theorem inn_bad {n : Int} {e : EF} {j : Nat} (hj : j < 3) (h : okA n e j = false) : innE n e = false := by
  have hc : j = 0 ∨ j = 1 ∨ j = 2 := by omega
  rw [innE_ok]
  rcases hc with rfl | rfl | rfl <;> rw [h] <;> simp
set_option maxRecDepth 100000 in
set_option maxHeartbeats 16000000 in
theorem inner7_any (bs mb : Nat) (n : Int) (e : EF) (w : World) (hb : Blk w bs 72 #[.int .i64 n, .map (some mb)]) :
    Calls Try.prog 42 #[.pointer (some ⟨bs, 0, none⟩), vF e] w fun r w' => r = .returned (.bool (innE n e)) ∧ Lay w w' := by
  go_enter Try.func42, Try.ntmps42
  go_upto_region 1 with fail
  obtain ⟨X, hX⟩ : ∃ X, X = w.alloc (.cells #[.int .i64 e.1, .int .i64 e.2.1, .int .i64 e.2.2.1, .int .i64 e.2.2.2] 70) := ⟨_, rfl⟩
  rw [← hX]
  have hbX : Blk X bs 72 #[.int .i64 n, .map (some mb)] := by rw [hX]; exact hb.alloc _
  have heX : Blk X w.heap.size 70 #[.int .i64 e.1, .int .i64 e.2.1, .int .i64 e.2.2.1, .int .i64 e.2.2.2] := by rw [hX]; exact Blk.new _ _ _
  have hL : Lay w X := by rw [hX]; exact (Lay.refl _).alloc _
  obtain ⟨a0, a1, a2, a3⟩ := heX.four
  have i0 : ∀ W, (Instr.index 68 (.agg #[.int .i64 e.2.1, .int .i64 e.2.2.1, .int .i64 e.2.2.2]) (.int .i64 0)).run Try.prog W = .ok (.int .i64 e.2.1) W := fun W => idxL0 _ _ _ W
  have i1 : ∀ W, (Instr.index 68 (.agg #[.int .i64 e.2.1, .int .i64 e.2.2.1, .int .i64 e.2.2.2]) (.int .i64 1)).run Try.prog W = .ok (.int .i64 e.2.2.1) W := fun W => idxL1 _ _ _ W
  have i2 : ∀ W, (Instr.index 68 (.agg #[.int .i64 e.2.1, .int .i64 e.2.2.1, .int .i64 e.2.2.2]) (.int .i64 2)).run Try.prog W = .ok (.int .i64 e.2.2.2) W := fun W => idxL2 _ _ _ W
  have b0 : X.cell? ⟨bs, 0, none⟩ = some (.int .i64 n) := hbX.cell 0
  have HL := hide hL
  clear hX hbX heX hL hb
  go_wp2_with fail
  go_loopw [9] (fun iv wr => ∃ i : Nat, i ≤ 3 ∧ iv = .int .i64 i ∧ wr = X ∧ ∀ j, j < i → okA n e j = true) (fun iv _ => 3 - (intOf iv).toNat)
  case atStart => exact ⟨0, by omega, rfl, rfl, fun j hj => by omega⟩
  case round =>
    obtain ⟨i, hi, rfl, rfl, hok⟩ := hrel
    obtain ⟨X, rfl⟩ : ∃ X, X = wr := ⟨_, rfl⟩
    have HO := hide hok
    clear hok
    have hc : i = 0 ∨ i = 1 ∨ i = 2 ∨ i = 3 := by omega
    rcases hc with rfl | rfl | rfl | rfl
    · rw [show ((0 : Nat) : Int) = 0 from rfl]
      by_cases q1 : e.2.1 < 0
      · have hf := inn_bad (n := n) (e := e) (j := 0) (by omega) (decide_eq_false (by unfold cmp3; simp; omega))
        have HF := hide hf
        clear hf
        go_wp2
        go_ret
        exact ⟨by simp [HF.out], HL.out⟩
      · by_cases q2 : e.2.1 < n
        · have q2' : ¬ n ≤ e.2.1 := by omega
          by_cases q3 : (0 : Int) = e.1
          · have q3' : ((0 : Int) != e.1) = false := by rw [← q3]; rfl
            have hgo : okA n e 0 = true := decide_eq_true (by unfold cmp3; simp; omega)
            have HG := hide hgo
            have HQ := hide q3
            clear hgo q3
            go_wp2
            go_roundw
            case rel => exact ⟨0 + 1, by omega, by go_num, trivial, fun j hj => by
              rcases Nat.lt_or_ge j 0 with h | h
              · exact HO.out j h
              · rw [show j = 0 by omega]; exact HG.out⟩
            case measure => simp [intOf]; try omega
          · have q3' : ((0 : Int) != e.1) = true := by rw [bne_iff_ne]; exact q3
            by_cases q4 : e.2.1 = 0
            · have q4' : (e.2.1 == 0) = true := by rw [q4]; rfl
              have hf := inn_bad (n := n) (e := e) (j := 0) (by omega) (decide_eq_false (by unfold cmp3; simp; omega))
              have HF := hide hf
              have HQ := hide (And.intro q3 q4)
              clear hf q3 q4
              go_wp2
              go_ret
              exact ⟨by simp [HF.out], HL.out⟩
            · have q4' : (e.2.1 == 0) = false := by rw [beq_eq_false_iff_ne]; exact q4
              have hgo : okA n e 0 = true := decide_eq_true (by unfold cmp3; simp; omega)
              have HG := hide hgo
              have HQ := hide (And.intro q3 q4)
              clear hgo q3 q4
              go_wp2
              go_roundw
              case rel => exact ⟨0 + 1, by omega, by go_num, trivial, fun j hj => by
                rcases Nat.lt_or_ge j 0 with h | h
                · exact HO.out j h
                · rw [show j = 0 by omega]; exact HG.out⟩
              case measure => simp [intOf]; try omega
        · have q2' : n ≤ e.2.1 := by omega
          have hf := inn_bad (n := n) (e := e) (j := 0) (by omega) (decide_eq_false (by unfold cmp3; simp; omega))
          have HF := hide hf
          clear hf
          go_wp2
          go_ret
          exact ⟨by simp [HF.out], HL.out⟩
    · rw [show ((1 : Nat) : Int) = 1 from rfl]
      by_cases q1 : e.2.2.1 < 0
      · have hf := inn_bad (n := n) (e := e) (j := 1) (by omega) (decide_eq_false (by unfold cmp3; simp; omega))
        have HF := hide hf
        clear hf
        go_wp2
        go_ret
        exact ⟨by simp [HF.out], HL.out⟩
      · by_cases q2 : e.2.2.1 < n
        · have q2' : ¬ n ≤ e.2.2.1 := by omega
          by_cases q3 : (1 : Int) = e.1
          · have q3' : ((1 : Int) != e.1) = false := by rw [← q3]; rfl
            have hgo : okA n e 1 = true := decide_eq_true (by unfold cmp3; simp; omega)
            have HG := hide hgo
            have HQ := hide q3
            clear hgo q3
            go_wp2
            go_roundw
            case rel => exact ⟨1 + 1, by omega, by go_num, trivial, fun j hj => by
              rcases Nat.lt_or_ge j 1 with h | h
              · exact HO.out j h
              · rw [show j = 1 by omega]; exact HG.out⟩
            case measure => simp [intOf]; try omega
          · have q3' : ((1 : Int) != e.1) = true := by rw [bne_iff_ne]; exact q3
            by_cases q4 : e.2.2.1 = 0
            · have q4' : (e.2.2.1 == 0) = true := by rw [q4]; rfl
              have hf := inn_bad (n := n) (e := e) (j := 1) (by omega) (decide_eq_false (by unfold cmp3; simp; omega))
              have HF := hide hf
              have HQ := hide (And.intro q3 q4)
              clear hf q3 q4
              go_wp2
              go_ret
              exact ⟨by simp [HF.out], HL.out⟩
            · have q4' : (e.2.2.1 == 0) = false := by rw [beq_eq_false_iff_ne]; exact q4
              have hgo : okA n e 1 = true := decide_eq_true (by unfold cmp3; simp; omega)
              have HG := hide hgo
              have HQ := hide (And.intro q3 q4)
              clear hgo q3 q4
              go_wp2
              go_roundw
              case rel => exact ⟨1 + 1, by omega, by go_num, trivial, fun j hj => by
                rcases Nat.lt_or_ge j 1 with h | h
                · exact HO.out j h
                · rw [show j = 1 by omega]; exact HG.out⟩
              case measure => simp [intOf]; try omega
        · have q2' : n ≤ e.2.2.1 := by omega
          have hf := inn_bad (n := n) (e := e) (j := 1) (by omega) (decide_eq_false (by unfold cmp3; simp; omega))
          have HF := hide hf
          clear hf
          go_wp2
          go_ret
          exact ⟨by simp [HF.out], HL.out⟩
    · rw [show ((2 : Nat) : Int) = 2 from rfl]
      by_cases q1 : e.2.2.2 < 0
      · have hf := inn_bad (n := n) (e := e) (j := 2) (by omega) (decide_eq_false (by unfold cmp3; simp; omega))
        have HF := hide hf
        clear hf
        go_wp2
        go_ret
        exact ⟨by simp [HF.out], HL.out⟩
      · by_cases q2 : e.2.2.2 < n
        · have q2' : ¬ n ≤ e.2.2.2 := by omega
          by_cases q3 : (2 : Int) = e.1
          · have q3' : ((2 : Int) != e.1) = false := by rw [← q3]; rfl
            have hgo : okA n e 2 = true := decide_eq_true (by unfold cmp3; simp; omega)
            have HG := hide hgo
            have HQ := hide q3
            clear hgo q3
            go_wp2
            go_roundw
            case rel => exact ⟨2 + 1, by omega, by go_num, trivial, fun j hj => by
              rcases Nat.lt_or_ge j 2 with h | h
              · exact HO.out j h
              · rw [show j = 2 by omega]; exact HG.out⟩
            case measure => simp [intOf]; try omega
          · have q3' : ((2 : Int) != e.1) = true := by rw [bne_iff_ne]; exact q3
            by_cases q4 : e.2.2.2 = 0
            · have q4' : (e.2.2.2 == 0) = true := by rw [q4]; rfl
              have hf := inn_bad (n := n) (e := e) (j := 2) (by omega) (decide_eq_false (by unfold cmp3; simp; omega))
              have HF := hide hf
              have HQ := hide (And.intro q3 q4)
              clear hf q3 q4
              go_wp2
              go_ret
              exact ⟨by simp [HF.out], HL.out⟩
            · have q4' : (e.2.2.2 == 0) = false := by rw [beq_eq_false_iff_ne]; exact q4
              have hgo : okA n e 2 = true := decide_eq_true (by unfold cmp3; simp; omega)
              have HG := hide hgo
              have HQ := hide (And.intro q3 q4)
              clear hgo q3 q4
              go_wp2
              go_roundw
              case rel => exact ⟨2 + 1, by omega, by go_num, trivial, fun j hj => by
                rcases Nat.lt_or_ge j 2 with h | h
                · exact HO.out j h
                · rw [show j = 2 by omega]; exact HG.out⟩
              case measure => simp [intOf]; try omega
        · have q2' : n ≤ e.2.2.2 := by omega
          have hf := inn_bad (n := n) (e := e) (j := 2) (by omega) (decide_eq_false (by unfold cmp3; simp; omega))
          have HF := hide hf
          clear hf
          go_wp2
          go_ret
          exact ⟨by simp [HF.out], HL.out⟩
    · rw [show ((3 : Nat) : Int) = 3 from rfl]
      have hall : innE n e = decide (0 ≤ e.1 ∧ e.1 < 3) := by
        rw [innE_ok, HO.out 0 (by omega), HO.out 1 (by omega), HO.out 2 (by omega)]
        simp
      have HA := hide hall
      clear hall
      by_cases q1 : 0 ≤ e.1
      · by_cases q2 : e.1 < 3
        · go_wp2
          go_ret
          exact ⟨by simp [HA.out, q1, q2], HL.out⟩
        · go_wp2
          go_ret
          exact ⟨by simp [HA.out, q2], HL.out⟩
      · go_wp2
        go_ret
        exact ⟨by simp [HA.out]; omega, HL.out⟩
end Go.Proofs.Ytdpgohpbannfnaa
/- seal: edges, faces and places as keys of maps; a set of edges; toggle. -/
namespace Go.Proofs.Ytdpgohpbannfnaa
open Go.RowKit Go.WideMaps Go.Maps
set_option maxRecDepth 100000
theorem laid_ok : laidOutB Try.prog = true := by kernel_rfl
theorem fits_wf {c : Int} (h : fits c) : (Lit.int .i64 c).wf = true := by
  obtain ⟨h1, h2⟩ := h
  simp only [Lit.wf, IntKind.min, IntKind.max, IntKind.signed, IntKind.bits, Bool.and_eq_true, decide_eq_true_eq, if_true]
  omega
theorem vF_inj {f g : EF} (h : vF f = vF g) : f = g := by
  obtain ⟨a, x, y, z⟩ := f
  obtain ⟨b, p, q, r⟩ := g
  simp only [vF, Value.agg.injEq, Array.mk.injEq, List.cons.injEq, Value.int.injEq, true_and, and_true] at h
  obtain ⟨h1, h2, h3, h4⟩ := h
  rw [h1, h2, h3, h4]
/-! Edges. -/
theorem rowE7 : (70 : TypeId) < Try.prog.types.size := of_decide_eq_true (by kernel_rfl)
theorem wideE7 : (match Try.prog.underlying 70 with | some (.array _ _) | some (.struct _) => true | _ => false) = true := by rw [Try.underlying70]
theorem lawE7 : KeyLaw Try.prog 70 := deep_law_laid laid_ok (m := 3) (by omega) rowE7 (by kernel_rfl) wideE7
theorem keyedE7 : Keyed Try.prog 70 := Keyed.of_law lawE7
theorem key_someE7 (f : EF) (hf : fitsF f) : ∃ l, keyOf Try.prog 70 (vF f) = some l := by
  obtain ⟨ha, h0, h1, h2⟩ := hf
  have wa := fits_wf ha
  have w0 := fits_wf h0
  have w1 := fits_wf h1
  have w2 := fits_wf h2
  have k : Try.prog.keyType 70 = true := by kernel_rfl
  have c : Try.prog.cellsOf 70 = 4 := by kernel_rfl
  have c2 : Try.prog.cellsOf 68 = 3 := by kernel_rfl
  have c1 : Try.prog.cellsOf 3 = 1 := by kernel_rfl
  obtain ⟨n, hn⟩ : ∃ n, Try.prog.types.size + 1 = n + 1 + 1 + 1 := ⟨Try.prog.types.size - 2, by have : (70 : Nat) < Try.prog.types.size := rowE7; omega⟩
  unfold keyOf
  simp only [Try.underlying70, k, Value.formed, c, hn, Bool.true_and]
  simp [Program.keyLits, Try.underlying70, Try.underlying68, Try.underlying3, c, c1, c2, wa, w0, w1, w2, Value.cells, List.range_succ]
theorem kfE7 : KeyFit Try.prog 70 vF fitsF := ⟨keyedE7, key_someE7, fun _ _ => vF_inj⟩
/-! Faces. -/
theorem rowF7 : (45 : TypeId) < Try.prog.types.size := of_decide_eq_true (by kernel_rfl)
theorem wideF7 : (match Try.prog.underlying 45 with | some (.array _ _) | some (.struct _) => true | _ => false) = true := by rw [Try.underlying45]
theorem lawF7 : KeyLaw Try.prog 45 := deep_law_laid laid_ok (m := 2) (by omega) rowF7 (by kernel_rfl) wideF7
theorem keyedF7 : Keyed Try.prog 45 := Keyed.of_law lawF7
theorem key_someF7 (f : EF) (hf : fitsF f) : ∃ l, keyOf Try.prog 45 (vF f) = some l := by
  obtain ⟨ha, h0, h1, h2⟩ := hf
  have wa := fits_wf ha
  have w0 := fits_wf h0
  have w1 := fits_wf h1
  have w2 := fits_wf h2
  have k : Try.prog.keyType 45 = true := by kernel_rfl
  have c : Try.prog.cellsOf 45 = 4 := by kernel_rfl
  have c1 : Try.prog.cellsOf 3 = 1 := by kernel_rfl
  obtain ⟨n, hn⟩ : ∃ n, Try.prog.types.size + 1 = n + 1 + 1 := ⟨Try.prog.types.size - 1, by have : (45 : Nat) < Try.prog.types.size := rowF7; omega⟩
  unfold keyOf
  simp only [Try.underlying45, k, Value.formed, c, hn, Bool.true_and]
  simp [Program.keyLits, Try.underlying45, Try.underlying3, c, c1, wa, w0, w1, w2, Value.cells]
theorem kfF7 : KeyFit Try.prog 45 vF fitsF := ⟨keyedF7, key_someF7, fun _ _ => vF_inj⟩
/-! Places. -/
theorem rowL7 : (68 : TypeId) < Try.prog.types.size := of_decide_eq_true (by kernel_rfl)
theorem wideL7 : (match Try.prog.underlying 68 with | some (.array _ _) | some (.struct _) => true | _ => false) = true := by rw [Try.underlying68]
theorem lawL7 : KeyLaw Try.prog 68 := deep_law_laid laid_ok (m := 2) (by omega) rowL7 (by kernel_rfl) wideL7
theorem keyedL7 : Keyed Try.prog 68 := Keyed.of_law lawL7
theorem key_someL7 (p : Pt) (hp : fitsP p) : ∃ l, keyOf Try.prog 68 (vP p) = some l := by
  obtain ⟨h0, h1, h2⟩ := hp
  have w0 := fits_wf h0
  have w1 := fits_wf h1
  have w2 := fits_wf h2
  have k : Try.prog.keyType 68 = true := by kernel_rfl
  have c : Try.prog.cellsOf 68 = 3 := by kernel_rfl
  have c1 : Try.prog.cellsOf 3 = 1 := by kernel_rfl
  obtain ⟨n, hn⟩ : ∃ n, Try.prog.types.size + 1 = n + 1 + 1 := ⟨Try.prog.types.size - 1, by have : (68 : Nat) < Try.prog.types.size := rowL7; omega⟩
  unfold keyOf
  simp only [Try.underlying68, k, Value.formed, c, hn, Bool.true_and]
  simp [Program.keyLits, Try.underlying68, Try.underlying3, c, c1, w0, w1, w2, Value.cells, List.range_succ]
theorem vP_inj {p q : Pt} (h : vP p = vP q) : p = q := by
  obtain ⟨a, b, c⟩ := p
  obtain ⟨d, e, f⟩ := q
  simpa using h
theorem kfL7 : KeyFit Try.prog 68 vP fitsP := ⟨keyedL7, key_someL7, fun _ _ => vP_inj⟩
/-! A set of edges. -/
def setV (E : EF → Bool) (e : EF) : Option Value := if E e then some (.bool true) else none
/-- Block b is a map of at most n entries: the set E. -/
def SetM (w : World) (b n : Nat) (E : EF → Bool) : Prop := MapK Try.prog 70 vF fitsF w b n (setV E)
theorem setV_get (E : EF → Bool) (e : EF) : (setV E e).getD (.bool false) = .bool (E e) := by unfold setV; cases E e <;> rfl
theorem setV_on {E : EF → Bool} {e : EF} (h : E e = false) : (fun q => if q = e then some (Value.bool true) else setV E q) = setV (togE E e) := by
  funext q
  unfold setV togE
  by_cases hq : q = e
  · subst hq; rw [if_pos rfl, if_pos rfl, h]; rfl
  · rw [if_neg hq, if_neg hq]
theorem setV_off {E : EF → Bool} {e : EF} (h : E e = true) : (fun q => if q = e then none else setV E q) = setV (togE E e) := by
  funext q
  unfold setV togE
  by_cases hq : q = e
  · subst hq; rw [if_pos rfl, if_pos rfl, h]; rfl
  · rw [if_neg hq, if_neg hq]
theorem grown_below7 {w Y Z : World} {r : Nat} (h : Below w.heap.size w Y) (hg : Y.grownBy Z (some r)) : w.grownBy Z (some r) :=
  ⟨hg.os.trans h.os, hg.tape.trans h.tape, hg.output.trans h.output, Nat.le_trans h.size hg.size, fun k hk hne => (hg.block k (Nat.lt_of_lt_of_le hk h.size) hne).trans (h.block k hk)⟩
set_option maxHeartbeats 4000000 in
theorem toggle7_any (mb n : Nat) (E : EF → Bool) (e : EF) (w : World) (hM : SetM w mb n E) (hf : fitsF e) (hn : n < maxLen) :
    Calls Try.prog 35 #[.map (some mb), vF e] w fun r w' => r = .returned (.tuple #[]) ∧ SetM w' mb (n + 1) (togE E e) ∧ w.grownBy w' (some mb) := by
  have hlt := hM.lt
  go_enter Try.func35, Try.ntmps35
  go_upto_region 1 with fail
  obtain ⟨X, hX⟩ : ∃ X, X = w.alloc (.cells #[.int .i64 e.1, .int .i64 e.2.1, .int .i64 e.2.2.1, .int .i64 e.2.2.2] 70) := ⟨_, rfl⟩
  rw [← hX]
  have heX : Blk X w.heap.size 70 #[.int .i64 e.1, .int .i64 e.2.1, .int .i64 e.2.2.1, .int .i64 e.2.2.2] := by rw [hX]; exact Blk.new _ _ _
  have hB : Below w.heap.size w X := by rw [hX]; exact (Below.refl _ w).alloc (Nat.le_refl _) _
  have hMX : MapK Try.prog 70 vF fitsF X mb n (setV E) := hM.below hB hlt
  obtain ⟨a0, a1, a2, a3⟩ := heX.four
  have hl := hMX.lookup kfE7 (t := 63) (e := 4) Try.underlying63 (z := .bool false) rfl e hf
  rw [setV_get] at hl
  cases hE : E e with
  | true =>
    rw [hE] at hl
    obtain ⟨w5, hrun, hm5, hg5, hz5⟩ := hMX.delete kfE7 (t := 63) (e := 4) Try.underlying63 e hf 0
    rw [setV_off hE] at hm5
    have HE := hide (And.intro hm5 (grown_below7 hB hg5))
    clear hm5 hg5 hz5 hX heX hB hMX hM hE
    go_wp2
    go_end0
    exact ⟨rfl, HE.out.1.mono (by omega), HE.out.2⟩
  | false =>
    rw [hE] at hl
    obtain ⟨w5, hrun, hm5, hg5, hz5⟩ := hMX.update kfE7 (t := 63) (e := 4) Try.underlying63 hn e hf (.bool true)
    rw [setV_on hE] at hm5
    have HE := hide (And.intro hm5 (grown_below7 hB hg5))
    clear hm5 hg5 hz5 hX heX hB hMX hM hE
    go_wp2
    go_end0
    exact ⟨rfl, HE.out.1, HE.out.2⟩
end Go.Proofs.Ytdpgohpbannfnaa
/- seal.begin. -/
namespace Go.Proofs.Ytdpgohpbannfnaa
open Go.RowKit Go.Sort Go.WideMaps Go.Maps
theorem grown_is_below7 {A B : World} {r n : Nat} (h : A.grownBy B (some r)) (hn : n ≤ A.heap.size) (hr : n ≤ r) : Below n A B :=
  ⟨h.os, h.tape, h.output, h.size, fun k hk => h.block k (by omega) (fun e => by cases e; omega)⟩
/-- A sealer: its box, its set. -/
structure SealM (w : World) (bs mb : Nat) (n : Int) (cnt : Nat) (E : EF → Bool) : Prop where
  box : Blk w bs 72 #[.int .i64 n, .map (some mb)]
  set : SetM w mb cnt E
theorem SealM.below {w w' : World} {bs mb cnt B : Nat} {n : Int} {E : EF → Bool} (h : SealM w bs mb n cnt E) (hb : Below B w w') (h1 : bs < B) (h2 : mb < B) : SealM w' bs mb n cnt E := ⟨h.box.below hb h1, h.set.below hb h2⟩
theorem SealM.ne {w : World} {bs mb cnt : Nat} {n : Int} {E : EF → Bool} (h : SealM w bs mb n cnt E) : bs ≠ mb := by
  rintro rfl
  obtain ⟨o, ho, hc⟩ := h.set.obj
  have h1 := h.box
  unfold Blk at h1
  rw [h1] at ho
  cases ho
  cases hc
theorem SealM.two {w : World} {bs mb cnt : Nat} {n : Int} {E : EF → Bool} (h : SealM w bs mb n cnt E) : w.cell? ⟨bs, 0, none⟩ = some (.int .i64 n) ∧ w.cell? ⟨bs, 1, none⟩ = some (.map (some mb)) := ⟨h.box.cell 0, h.box.cell 1⟩
/-- Toggled. -/
theorem SealM.turn {w w' : World} {bs mb cnt cnt' : Nat} {n : Int} {E E' : EF → Bool} (h : SealM w bs mb n cnt E) (hs : SetM w' mb cnt' E') (hg : w.grownBy w' (some mb)) : SealM w' bs mb n cnt' E' := ⟨h.box.grown hg (fun e => h.ne (by cases e; rfl)), hs⟩
theorem Sl.four {w : World} {B : Nat} {A : Option Addr} {fs : List EF} (h : Sl encF 4 w B A fs) {i : Nat} {f : EF} (hi : fs[i]? = some f) :
    ∃ b o, A = some ⟨b, o, none⟩ ∧ b < B ∧ w.cell? ⟨b, o + i * 4, none⟩ = some (.int .i64 f.1) ∧ w.cell? ⟨b, o + i * 4 + 1, none⟩ = some (.int .i64 f.2.1) ∧ w.cell? ⟨b, o + i * 4 + 2, none⟩ = some (.int .i64 f.2.2.1) ∧ w.cell? ⟨b, o + i * 4 + 3, none⟩ = some (.int .i64 f.2.2.2) := by
  obtain ⟨b, o, ha, hb, hc⟩ := h.at hi
  exact ⟨b, o, ha, hb, hc 0 _ rfl, hc 1 _ rfl, hc 2 _ rfl, hc 3 _ rfl⟩
set_option maxRecDepth 100000 in
set_option maxHeartbeats 16000000 in
theorem begin7_bad (L : Int) (hL : ¬ (1 ≤ L ∧ L ≤ 8)) (A : Option Addr) (m c : Nat) (w : World) :
    Calls Try.prog 29 #[.slice A m c, .int .i64 L] w fun e w' => e = .returned (.tuple #[.pointer none, .bool false]) ∧ w' = w := by
  by_cases h1 : L < 1
  · go_enter Try.func29, Try.ntmps29
    go_wp2
    go_ret2
    exact ⟨rfl, rfl⟩
  · have h2 : 8 < L := by omega
    go_enter Try.func29, Try.ntmps29
    go_wp2
    go_ret2
    exact ⟨rfl, rfl⟩
set_option maxRecDepth 100000 in
set_option maxHeartbeats 16000000 in
theorem begin7_any (L : Nat) (h1 : 1 ≤ L) (h8 : L ≤ 8) (A : Option Addr) (c : Nat) (l : List EF) (w : World) (hs : Sl encF 4 w w.heap.size A l) (hl : l.length ≤ 1000000) (hf : ∀ e ∈ l, fitsF e) :
    Calls Try.prog 29 #[.slice A l.length c, .int .i64 L] w fun e w' => ∃ bs mb, e = .returned (.tuple #[.pointer (some ⟨bs, 0, none⟩), .bool true]) ∧ SealM w' bs mb ((2 ^ L : Nat) : Int) l.length (givE ((2 ^ L : Nat) : Int) l) ∧ Below w.heap.size w w' ∧ (w.heap.size ≤ bs ∧ w.heap.size ≤ mb) := by
  obtain ⟨M, hM⟩ : ∃ M, M = l.length := ⟨_, rfl⟩
  rw [← hM] at hl ⊢
  obtain ⟨n, hn⟩ : ∃ n : Nat, n = 2 ^ L := ⟨_, rfl⟩
  rw [← hn]
  have HL := hide (And.intro hs (And.intro hf (And.intro hM hn)))
  clear hs hf hM hn
  have hc : L = 1 ∨ L = 2 ∨ L = 3 ∨ L = 4 ∨ L = 5 ∨ L = 6 ∨ L = 7 ∨ L = 8 := by omega
  have l1 : ¬ (L : Int) < 1 := by omega
  have l2 : ¬ 8 < (L : Int) := by omega
  have hmm := @run_makeMap Try.prog
  go_enter Try.func29, Try.ntmps29
  go_upto_region 3 with fail
  obtain ⟨X, hX⟩ : ∃ X, X = (w.alloc (.map #[] 0)).alloc (.cells #[.int .i64 n, .map (some w.heap.size)] 72) := ⟨_, rfl⟩
  have hzX : X.heap.size = w.heap.size + 2 := by rw [hX]; simp
  have hS : SealM X (w.heap.size + 1) w.heap.size n 0 (givE n []) := by
    rw [hX]
    exact ⟨Blk.new' _ _ _ _ (by simp), (MapK.made Try.prog 70 vF fitsF w).below ((Below.refl _ _).alloc (Nat.le_refl _) _) (by simp)⟩
  have hBX : Below w.heap.size w X := by rw [hX]; exact ((Below.refl _ w).alloc (Nat.le_refl _) _).alloc (by simp) _
  have HX := hide (And.intro hS (And.intro hBX hX))
  clear hS hBX hX
  go_cut [6] (fun v wx => v = .pointer (some ⟨w.heap.size + 1, 0, none⟩) ∧ wx = X)
  case first =>
    have hn := HL.out.2.2.2
    rcases hc with rfl | rfl | rfl | rfl | rfl | rfl | rfl | rfl <;> (
      go_wp2_with fail
      go_meet
      case rel => exact ⟨rfl, by rw [HX.out.2.2, hn]; rfl⟩)
  case rest =>
    obtain ⟨rfl, rfl⟩ := hcut
    obtain ⟨X, rfl⟩ : ∃ X, X = wc := ⟨_, rfl⟩
    clear hc l1 l2
    go_wp2_with fail
    go_loopw [23] (fun iv wr => ∃ k : Nat, k ≤ M ∧ iv = .int .i64 k ∧ SealM wr (w.heap.size + 1) w.heap.size n k (givE n (l.take k)) ∧ Below w.heap.size w wr) (fun iv _ => M - (intOf iv).toNat)
    case atStart => exact ⟨0, by omega, rfl, HX.out.1, HX.out.2.1⟩
    case round =>
      obtain ⟨k, hk, rfl, hS, hB⟩ := hrel
      obtain ⟨V, rfl⟩ : ∃ V, V = wr := ⟨_, rfl⟩
      have hltb := hS.box.lt
      have hltm := hS.set.lt
      by_cases hkM : k < M
      · have i1 : (k : Int) < (M : Int) := by omega
        obtain ⟨e, he⟩ : ∃ e, l[k]? = some e := ⟨_, List.getElem?_eq_getElem (by rw [← HL.out.2.2.1]; exact hkM)⟩
        have hfe := HL.out.2.1 e (List.mem_of_getElem? he)
        have htk : l.take (k + 1) = l.take k ++ [e] := by rw [List.take_add_one, he]; rfl
        have hgs := givE_snoc n (l.take k) e
        rw [← htk] at hgs
        obtain ⟨tb, oo, hA, _, g0, g1, g2, g3⟩ := (HL.out.1.below hB).four he
        subst hA
        have HV := hide (And.intro hS (And.intro hB (And.intro hfe hgs)))
        clear hS hB hfe hgs htk he
        go_upto_region 8 with fail
        obtain ⟨Y, hY⟩ : ∃ Y, Y = (V.alloc (.cells #[.int .i64 e.1, .int .i64 e.2.1, .int .i64 e.2.2.1, .int .i64 e.2.2.2] 44)).alloc (.cells #[.int .i64 e.1, .int .i64 e.2.1, .int .i64 e.2.2.1, .int .i64 e.2.2.2] 70) := ⟨_, rfl⟩
        rw [← hY]
        have hzY : Y.heap.size = V.heap.size + 2 := by rw [hY]; simp
        have heY : Blk Y (V.heap.size + 1) 70 #[.int .i64 e.1, .int .i64 e.2.1, .int .i64 e.2.2.1, .int .i64 e.2.2.2] := by rw [hY]; exact Blk.new' _ _ _ _ (by simp)
        have hBV : Below V.heap.size V Y := by rw [hY]; exact ((Below.refl _ V).alloc (Nat.le_refl _) _).alloc (by simp) _
        have hSY := HV.out.1.below hBV hltb hltm
        have hin := inner7_any (w.heap.size + 1) w.heap.size n e Y hSY.box
        obtain ⟨a0, a1, a2, a3⟩ := heY.four
        have HY := hide (And.intro hSY (And.intro hBV (And.intro heY hin)))
        clear hSY hBV heY hin hY g0 g1 g2 g3
        go_wp2_with fail
        refine HY.out.2.2.2.mono ?_
        rintro r w2 ⟨rfl, hL2⟩
        have hB2 := hL2.below
        have hS2 := HY.out.1.below hB2 (by omega) (by omega)
        have he2 := HY.out.2.2.1.below hB2 (by omega)
        have hBw := HV.out.2.1.trans ((HY.out.2.1.trans (hB2.mono (by omega))).mono (by have := HV.out.2.1.size; omega))
        have H2 := hide (And.intro hS2 (And.intro he2 hBw))
        clear hL2 hB2 hS2 he2 hBw a0 a1 a2 a3
        cases hie : innE n e with
        | true =>
          have hgs := HV.out.2.2.2
          rw [if_pos hie] at hgs
          obtain ⟨b0, b1⟩ := H2.out.1.two
          obtain ⟨a0, a1, a2, a3⟩ := H2.out.2.1.four
          have htg := fun W (hW : SetM W w.heap.size k (givE n (l.take k))) => toggle7_any w.heap.size k (givE n (l.take k)) e W hW HV.out.2.2.1 (by unfold maxLen; omega)
          have HG := hide (And.intro hgs htg)
          clear hgs htg
          go_upto_region 9 with fail
          go_still_tail 5, (by kernel_rfl)
          go_wp2_with fail
          refine (HG.out.2 w2.drew H2.out.1.set).mono ?_
          rintro r w3 ⟨rfl, hM3, hg3⟩
          have hS3 : SealM w3 (w.heap.size + 1) w.heap.size n (k + 1) (givE n (l.take (k + 1))) := by
            rw [HG.out.1]
            exact SealM.turn (w := w2.drew) ⟨H2.out.1.box, H2.out.1.set⟩ hM3 hg3
          have hB3 : Below w.heap.size w w3 := H2.out.2.2.drew.trans (grown_is_below7 hg3 (by have := H2.out.2.2.size; exact this) (Nat.le_refl _))
          have H3 := hide (And.intro hS3 hB3)
          clear hM3 hg3 hS3 hB3 a0 a1 a2 a3 b0 b1
          go_wp2
          go_roundw
          case rel => exact ⟨k + 1, by omega, by go_num, H3.out.1, H3.out.2⟩
          case measure => simp [intOf]; omega
        | false =>
          have hgs := HV.out.2.2.2
          rw [if_neg (by rw [hie]; simp)] at hgs
          have hS3 : SealM w2 (w.heap.size + 1) w.heap.size n (k + 1) (givE n (l.take (k + 1))) := by
            rw [hgs]
            exact ⟨H2.out.1.box, H2.out.1.set.mono (by omega)⟩
          have H3 := hide hS3
          clear hgs hS3
          go_wp2
          go_roundw
          case rel => exact ⟨k + 1, by omega, by go_num, H3.out, H2.out.2.2⟩
          case measure => simp [intOf]; omega
      · have i1 : ¬ (k : Int) < (M : Int) := by omega
        have hke : k = M := by omega
        rw [hke, HL.out.2.2.1, List.take_length, ← HL.out.2.2.1] at hS
        have HE := hide (And.intro hS hB)
        clear hS hB hke
        go_wp2
        go_ret2
        exact ⟨_, rfl, _, HE.out.1, HE.out.2, by omega, Nat.le_refl _⟩
end Go.Proofs.Ytdpgohpbannfnaa
/- Numbers as elements of a slice. -/
namespace Go.Proofs.Ytdpgohpbannfnaa
open Go.RowKit
def encZ (x : Int) : List Value := [.int .i64 x]
theorem encZ_len (x : Int) : (encZ x).length = 1 := rfl
theorem Sl.num {w : World} {B : Nat} {A : Option Addr} {xs : List Int} (h : Sl encZ 1 w B A xs) {i : Nat} {x : Int} (hi : xs[i]? = some x) :
    ∃ b o, A = some ⟨b, o, none⟩ ∧ b < B ∧ w.cell? ⟨b, o + i, none⟩ = some (.int .i64 x) := by
  obtain ⟨b, o, ha, hb, hc⟩ := h.at hi
  have := hc 0 _ rfl
  rw [Nat.mul_one, Nat.add_zero] at this
  exact ⟨b, o, ha, hb, this⟩
end Go.Proofs.Ytdpgohpbannfnaa
