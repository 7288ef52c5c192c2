/- An argument of type uint32. -/
import Derived.Test.YtfljcgehhnmamaaCB19
namespace Go.Proofs.Ytfljcgehhnmamaa
open Go.ChangeShapes Go.WideShapes Go.ChangeAt Go.RowKit
set_option maxRecDepth 100000 in
theorem open_u32 {H : Type} {enc : TypeId × Value → H} {W : World} {r : Reach} {b0 : Nat} {v : Value} {d : DataW H} {ps : List MemPlace} (hv : Value.okWide Try.prog W r b0 32 v) (h : DataW.Trod enc Try.prog W 0 (fun _ => true) true 32 v d ps) : ∃ n : Nat, v = .int .u32 n ∧ n < 4294967296 := by
  obtain ⟨x, rfl, _, _, w⟩ := open_int Try.underlying32 hv h
  simp [Lit.wf, IntKind.min, IntKind.max, IntKind.signed, IntKind.bits] at w
  exact ⟨x.toNat, by rw [Int.toNat_of_nonneg (by omega)], by omega⟩
end Go.Proofs.Ytfljcgehhnmamaa
