/- Facts of this program's tables: indexing a triangle, sizes. -/
import Derived.Test.YtgndbpkgehjelaaRows
import Derived.Test.YtgndbpkgehjelaaKit
import Derived.Handy
namespace Go.Proofs.Ytgndbpkgehjelaa
open Go.RowKit
theorem idxT0 (a b c d e f g h i : Value) (w : World) : (Instr.index 26 (.agg #[a, b, c, d, e, f, g, h, i]) (.int .i64 0)).run Try.prog w = .ok (.agg #[a, b, c]) w := by kernel_rfl
theorem idxT1 (a b c d e f g h i : Value) (w : World) : (Instr.index 26 (.agg #[a, b, c, d, e, f, g, h, i]) (.int .i64 1)).run Try.prog w = .ok (.agg #[d, e, f]) w := by kernel_rfl
theorem idxT2 (a b c d e f g h i : Value) (w : World) : (Instr.index 26 (.agg #[a, b, c, d, e, f, g, h, i]) (.int .i64 2)).run Try.prog w = .ok (.agg #[g, h, i]) w := by kernel_rfl
def corner (t : Tri) (j : Nat) : Pt := if j = 0 then t.1 else if j = 1 then t.2.1 else t.2.2
theorem idxT (t : Tri) (j : Nat) (hj : j < 3) (w : World) : (Instr.index 26 (vT t) (.int .i64 j)).run Try.prog w = .ok (vP (corner t j)) w := by
  have : j = 0 ∨ j = 1 ∨ j = 2 := by omega
  rcases this with rfl | rfl | rfl
  · exact idxT0 _ _ _ _ _ _ _ _ _ w
  · exact idxT1 _ _ _ _ _ _ _ _ _ w
  · exact idxT2 _ _ _ _ _ _ _ _ _ w
def fits (c : Int) : Prop := -9223372036854775808 ≤ c ∧ c ≤ 9223372036854775807
def fitsP (p : Pt) : Prop := fits p.1 ∧ fits p.2.1 ∧ fits p.2.2
def fitsT (t : Tri) : Prop := fitsP t.1 ∧ fitsP t.2.1 ∧ fitsP t.2.2
theorem mixed_ok : Try.prog.follows .mixedOrders = true := by kernel_rfl
end Go.Proofs.Ytgndbpkgehjelaa
