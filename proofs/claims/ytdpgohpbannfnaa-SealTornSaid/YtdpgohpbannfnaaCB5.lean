/- Joined texts: Pre0. -/
import Derived.Test.YtdpgohpbannfnaaRows
import Derived.Handy
import Derived.Test.YtdpgohpbannfnaaCB2
/- Facts of this program's tables, sizes. -/
namespace Go.Proofs.Ytdpgohpbannfnaa
open Go.RowKit
def fits (c : Int) : Prop := -9223372036854775808 ≤ c ∧ c ≤ 9223372036854775807
def fitsP (p : Pt) : Prop := fits p.1 ∧ fits p.2.1 ∧ fits p.2.2
def fitsT (t : Tri) : Prop := fitsP t.1 ∧ fitsP t.2.1 ∧ fitsP t.2.2
theorem mixed_ok : Try.prog.follows .mixedOrders = true := by kernel_rfl
/-- The end of a function whose result lies in memory. -/
theorem ret_at {P : Program} {fn : Func} {R : Ending → World → Prop} {a : Act} {w : World} {v : Value} (S : World → Prop) (hw : S w) (hr : ∀ W, S W → (results fn a.tmps).run P W = .ok v W) (hd : a.defers = []) (hR : R (.returned v) w) : bodyPost P fn R .ret a w :=
  bodyPost_ret (hr w hw) hd hR
theorem Blk.three {W : World} {g : Nat} {t : TypeId} {a b c : Value} (h : Blk W g t #[a, b, c]) : W.cell? ⟨g, 0, none⟩ = some a ∧ W.cell? ⟨g, 1, none⟩ = some b ∧ W.cell? ⟨g, 2, none⟩ = some c :=
  ⟨h.cell 0, h.cell 1, h.cell 2⟩
end Go.Proofs.Ytdpgohpbannfnaa
