/- Integers as elements. No dump is named. -/
import Derived.Test.YtgndbpkgehjelaaKit
namespace Go.Proofs.Ytgndbpkgehjelaa
def encI (x : Nat) : List Value := [.int .i64 x]
theorem encI_len (x : Nat) : (encI x).length = 1 := rfl
theorem encI_one (x : Nat) : ∀ u ∈ encI x, u.oneCell' = true := by
  intro u hu
  simp only [encI, List.mem_singleton] at hu
  subst hu
  rfl
end Go.Proofs.Ytgndbpkgehjelaa
