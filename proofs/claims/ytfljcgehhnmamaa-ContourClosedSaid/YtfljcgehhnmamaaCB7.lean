/- Joined texts: Pre FanP Vec1. -/
import Derived.Test.YtfljcgehhnmamaaRows
import Derived.Handy
import Derived.IntWalk
import Derived.Test.YtfljcgehhnmamaaCB4
/- Facts of this program's tables: indexing a triangle, sizes. -/
namespace Go.Proofs.Ytfljcgehhnmamaa
open Go.RowKit
theorem idxT0 (a b c d e f g h i : Value) (w : World) : (Instr.index 40 (.agg #[a, b, c, d, e, f, g, h, i]) (.int .i64 0)).run Try.prog w = .ok (.agg #[a, b, c]) w := by kernel_rfl
theorem idxT1 (a b c d e f g h i : Value) (w : World) : (Instr.index 40 (.agg #[a, b, c, d, e, f, g, h, i]) (.int .i64 1)).run Try.prog w = .ok (.agg #[d, e, f]) w := by kernel_rfl
theorem idxT2 (a b c d e f g h i : Value) (w : World) : (Instr.index 40 (.agg #[a, b, c, d, e, f, g, h, i]) (.int .i64 2)).run Try.prog w = .ok (.agg #[g, h, i]) w := by kernel_rfl
def corner (t : Tri) (j : Nat) : Pt := if j = 0 then t.1 else if j = 1 then t.2.1 else t.2.2
theorem idxT (t : Tri) (j : Nat) (hj : j < 3) (w : World) : (Instr.index 40 (vT t) (.int .i64 j)).run Try.prog w = .ok (vP (corner t j)) w := by
  have : j = 0 ∨ j = 1 ∨ j = 2 := by omega
  rcases this with rfl | rfl | rfl
  · exact idxT0 _ _ _ _ _ _ _ _ _ w
  · exact idxT1 _ _ _ _ _ _ _ _ _ w
  · exact idxT2 _ _ _ _ _ _ _ _ _ w
def fits (c : Int) : Prop := -9223372036854775808 ≤ c ∧ c ≤ 9223372036854775807
def fitsP (p : Pt) : Prop := fits p.1 ∧ fits p.2.1 ∧ fits p.2.2
def fitsT (t : Tri) : Prop := fitsP t.1 ∧ fitsP t.2.1 ∧ fitsP t.2.2
theorem mixed_ok : Try.prog.follows .mixedOrders = true := by kernel_rfl
end Go.Proofs.Ytfljcgehhnmamaa
/- Layer 8, plain: points and fans. No program. -/
namespace Go.Proofs.Ytfljcgehhnmamaa
open Go.RowKit
/-- The point at place p of the cell c, whose side is h. -/
def pointP (c : Pt) (h : Int) (p : Pt) : Pt := (c.1 * h + p.1 * (h / 2), c.2.1 * h + p.2.1 * (h / 2), c.2.2 * h + p.2.2 * (h / 2))
def addP (a b : Pt) : Pt := (a.1 + b.1, a.2.1 + b.2.1, a.2.2 + b.2.2)
def sumP (l : List Pt) : Pt := l.foldl addP (0, 0, 0)
def ctrP (l : List Pt) : Pt := ((sumP l).1 / l.length, (sumP l).2.1 / l.length, (sumP l).2.2 / l.length)
def nthP (l : List Pt) (k : Nat) : Pt := l.getD k (0, 0, 0)
def fanN (l : List Pt) (k : Nat) : List Tri := (List.range k).map fun i => (nthP l i, nthP l ((i + 1) % l.length), ctrP l)
def fanP (l : List Pt) : List Tri := if l.length = 3 then [(nthP l 0, nthP l 1, nthP l 2)] else fanN l l.length
/-- Coordinates that a grid bears. -/
def gridP (p : Pt) : Prop := (0 ≤ p.1 ∧ p.1 ≤ 4194304) ∧ (0 ≤ p.2.1 ∧ p.2.1 ≤ 4194304) ∧ (0 ≤ p.2.2 ∧ p.2.2 ≤ 4194304)
theorem gridP.fits {p : Pt} (h : gridP p) : fitsP p := by
  obtain ⟨⟨a, b⟩, ⟨c, d⟩, e, f⟩ := h
  unfold fitsP Go.Proofs.Ytfljcgehhnmamaa.fits
  omega
theorem sumP_take (l : List Pt) (k : Nat) (p : Pt) (h : l[k]? = some p) : sumP (l.take (k + 1)) = addP (sumP (l.take k)) p := by
  unfold sumP
  rw [List.take_add_one, h, Option.toList_some, List.foldl_append]
  rfl
theorem sumP_bd (l : List Pt) (hl : ∀ p ∈ l, gridP p) : ∀ k, k ≤ l.length → (0 ≤ (sumP (l.take k)).1 ∧ (sumP (l.take k)).1 ≤ k * 4194304) ∧ (0 ≤ (sumP (l.take k)).2.1 ∧ (sumP (l.take k)).2.1 ≤ k * 4194304) ∧ (0 ≤ (sumP (l.take k)).2.2 ∧ (sumP (l.take k)).2.2 ≤ k * 4194304) := by
  intro k
  induction k with
  | zero => intro _; simp [sumP]
  | succ k ih =>
    intro hk
    obtain ⟨p, hp⟩ : ∃ p, l[k]? = some p := ⟨_, List.getElem?_eq_getElem (by omega)⟩
    obtain ⟨⟨a1, a2⟩, ⟨b1, b2⟩, c1, c2⟩ := ih (by omega)
    obtain ⟨⟨d1, d2⟩, ⟨e1, e2⟩, f1, f2⟩ := hl p (List.mem_of_getElem? hp)
    rw [sumP_take l k p hp]
    unfold addP
    refine ⟨⟨?_, ?_⟩, ⟨?_, ?_⟩, ?_, ?_⟩ <;> (dsimp only; push_cast; omega)
theorem fanN_succ (l : List Pt) (k : Nat) : fanN l (k + 1) = fanN l k ++ [(nthP l k, nthP l ((k + 1) % l.length), ctrP l)] := by
  unfold fanN
  rw [List.range_succ, List.map_append]
  rfl
theorem fanN_length (l : List Pt) (k : Nat) : (fanN l k).length = k := by simp [fanN]
theorem fanP_length (l : List Pt) : (fanP l).length ≤ max 1 l.length := by
  unfold fanP
  split
  · simp; omega
  · rw [fanN_length]; omega
theorem nthP_get {l : List Pt} {k : Nat} {p : Pt} (h : l[k]? = some p) : nthP l k = p := by
  unfold nthP
  rw [List.getD_eq_getElem?_getD, h]
  rfl
theorem ctr_grid (l : List Pt) (hl : ∀ p ∈ l, gridP p) (h0 : 0 < l.length) : gridP (ctrP l) := by
  have h := sumP_bd l hl l.length (Nat.le_refl _)
  rw [List.take_length] at h
  obtain ⟨⟨a1, a2⟩, ⟨b1, b2⟩, c1, c2⟩ := h
  have hp : (0 : Int) < l.length := by omega
  have key : ∀ x : Int, 0 ≤ x → x ≤ l.length * 4194304 → 0 ≤ x / l.length ∧ x / l.length ≤ 4194304 := fun x h1 h2 =>
    ⟨Int.ediv_nonneg h1 (by omega), Int.ediv_le_of_le_mul hp (by rw [Int.mul_comm]; exact h2)⟩
  exact ⟨key _ a1 a2, key _ b1 b2, key _ c1 c2⟩
theorem fan_grid (l : List Pt) (hl : ∀ p ∈ l, gridP p) (h0 : 0 < l.length) : ∀ t ∈ fanP l, gridP t.1 ∧ gridP t.2.1 ∧ gridP t.2.2 := by
  have hn : ∀ k, k < l.length → gridP (nthP l k) := fun k hk => by
    rw [nthP_get (List.getElem?_eq_getElem hk)]
    exact hl _ (List.getElem_mem hk)
  intro t ht
  unfold fanP at ht
  split at ht
  · rename_i h3
    simp only [List.mem_singleton] at ht
    subst ht
    exact ⟨hn 0 (by omega), hn 1 (by omega), hn 2 (by omega)⟩
  · obtain ⟨k, hk, rfl⟩ := List.mem_map.1 ht
    have hk := List.mem_range.1 hk
    exact ⟨hn k hk, hn _ (Nat.mod_lt _ h0), ctr_grid l hl h0⟩
end Go.Proofs.Ytfljcgehhnmamaa
/- contour.corner, axes, middle. -/
namespace Go.Proofs.Ytfljcgehhnmamaa
open Go.RowKit
/-- The end of a function whose result lies in memory. -/
theorem ret_at {P : Program} {fn : Func} {R : Ending → World → Prop} {a : Act} {w : World} {v : Value} (S : World → Prop) (hw : S w) (hr : ∀ W, S W → (results fn a.tmps).run P W = .ok v W) (hd : a.defers = []) (hR : R (.returned v) w) : bodyPost P fn R .ret a w :=
  bodyPost_ret (hr w hw) hd hR
theorem Blk.three {W : World} {g : Nat} {t : TypeId} {a b c : Value} (h : Blk W g t #[a, b, c]) : W.cell? ⟨g, 0, none⟩ = some a ∧ W.cell? ⟨g, 1, none⟩ = some b ∧ W.cell? ⟨g, 2, none⟩ = some c :=
  ⟨h.cell 0, h.cell 1, h.cell 2⟩
set_option maxRecDepth 100000 in
set_option maxHeartbeats 4000000 in
theorem corner_any (v : Nat) (hv : v < 8) (w : World) : Calls Try.prog 65 #[.int .i64 v] w fun e w' => e = .returned (vP (cornerP v)) ∧ Below w.heap.size w w' := by
  have hc : v = 0 ∨ v = 1 ∨ v = 2 ∨ v = 3 ∨ v = 4 ∨ v = 5 ∨ v = 6 ∨ v = 7 := by omega
  rcases hc with rfl | rfl | rfl | rfl | rfl | rfl | rfl | rfl
  all_goals
    go_enter Try.func65, Try.ntmps65
    go_wp2
    refine bodyPost_ret (v := vP (cornerP _)) (by simp [results, Try.results65, go_sem]; decide +kernel) rfl ⟨rfl, ?_⟩
    exact (Below.refl _ _).alloc (Nat.le_refl _) _
set_option maxRecDepth 100000 in
set_option maxHeartbeats 4000000 in
theorem axes8_any (a : Nat) (ha : a < 3) (w : World) : Calls Try.prog 66 #[.int .i64 a] w fun e w' => e = .returned (.tuple #[.int .i64 ((a + 1) % 3 : Nat), .int .i64 ((a + 2) % 3 : Nat)]) ∧ w' = w := by
  have hc : a = 0 ∨ a = 1 ∨ a = 2 := by omega
  rcases hc with rfl | rfl | rfl
  all_goals
    go_enter Try.func66, Try.ntmps66
    go_wp2
    go_ret2
    exact ⟨rfl, rfl⟩
theorem cornerP_bd (v : Nat) : (0 ≤ (cornerP v).1 ∧ (cornerP v).1 ≤ 2) ∧ (0 ≤ (cornerP v).2.1 ∧ (cornerP v).2.1 ≤ 2) ∧ (0 ≤ (cornerP v).2.2 ∧ (cornerP v).2.2 ≤ 2) := by
  unfold cornerP
  refine ⟨⟨?_, ?_⟩, ⟨?_, ?_⟩, ?_, ?_⟩ <;> (dsimp only; omega)
set_option maxRecDepth 100000 in
set_option maxHeartbeats 4000000 in
theorem middle_any (u v : Nat) (hu : u < 8) (hv : v < 8) (w : World) : Calls Try.prog 67 #[.int .i64 u, .int .i64 v] w fun e w' => e = .returned (vP (midP u v)) ∧ Below w.heap.size w w' := by
  go_enter Try.func67, Try.ntmps67
  go_wp2_with fail
  refine (corner_any u hu _).mono ?_
  rintro e w1 ⟨rfl, hB1⟩
  have H1 := hide hB1
  clear hB1
  go_wp2_with fail
  refine (corner_any v hv _).mono ?_
  rintro e w2 ⟨rfl, hB2⟩
  have hbu := cornerP_bd u
  have hbv := cornerP_bd v
  have hmid : midP u v = (((cornerP u).1 + (cornerP v).1) / 2, ((cornerP u).2.1 + (cornerP v).2.1) / 2, ((cornerP u).2.2 + (cornerP v).2.2) / 2) := rfl
  obtain ⟨p, hp⟩ : ∃ p, p = cornerP u := ⟨_, rfl⟩
  obtain ⟨q, hq⟩ : ∃ q, q = cornerP v := ⟨_, rfl⟩
  rw [← hp, ← hq] at hmid
  rw [← hp] at hbu ⊢
  rw [← hq] at hbv ⊢
  have hBw : Below w.heap.size w w2 := (((Below.refl _ w).alloc (Nat.le_refl _) _).trans (H1.out.mono (by simp))).trans (hB2.mono (by have := H1.out.size; simp at this; omega))
  have hr : Blk w2 w.heap.size 61 #[.int .i64 0, .int .i64 0, .int .i64 0] := by
    have h1 := (Blk.new w 61 #[.int .i64 0, .int .i64 0, .int .i64 0]).below H1.out (by simp)
    exact h1.below hB2 h1.lt
  have HM := hide (And.intro hmid (And.intro hp hq))
  have HB := hide (And.intro hBw hr)
  have hz := hBw.size
  have hlt := hr.lt
  clear hmid hp hq hB2 hBw
  have r0 := hr.frozen 0
  have r1 := hr.frozen 1
  have r2 := hr.frozen 2
  have s0 := hr.cell 0
  have s1 := hr.cell 1
  have s2 := hr.cell 2
  simp only [List.getElem?_toArray, List.getElem?_cons_zero, List.getElem?_cons_succ] at s0 s1 s2
  clear hr
  go_wp2
  refine ret_at (v := vP (midP u v)) (fun W => Blk W w.heap.size 61 #[.int .i64 ((p.1 + q.1) / 2), .int .i64 ((p.2.1 + q.2.1) / 2), .int .i64 ((p.2.2 + q.2.2) / 2)]) (((HB.out.2.set3 _ _ _).alloc _).alloc _) (fun W h => ?_) rfl
    ⟨rfl, ((((HB.out.1.setCell (Nat.le_refl _) _).setCell (Nat.le_refl _) _).setCell (Nat.le_refl _) _).alloc (by simp; omega) _).alloc (by simp; omega) _⟩
  obtain ⟨a0, a1, a2⟩ := h.three
  rw [HM.out.1]
  simp [results, Try.results67, go_sem, a0, a1, a2]
end Go.Proofs.Ytfljcgehhnmamaa
