/- Mod. -/
import Derived.WalkKit
import Derived.WalkSpells
import Derived.WalkLawsBesides
import Derived.Laws.OwnMore
import Derived.Deep.AppendLies
import Derived.Deep.Draws
import Derived.Test.YtelfnmohpjkilaaGreatDoorProg
import Derived.Test.YtelfnmohpjkilaaGreatDoorQ4
namespace Go.Proofs.YtelfnmohpjkilaaGreatDoor
open Go.RowKit
def modC (n m : Int) : Int := (n.tmod m + m) % m
theorem tmod_bound (n m : Int) (hm : 0 < m) : -m < n.tmod m ∧ n.tmod m < m := by
  have h1 := Int.tmod_lt_of_pos n hm
  have h2 : -n.tmod m < m := by rw [← Int.neg_tmod]; exact Int.tmod_lt_of_pos _ hm
  omega
theorem modC_bound (n m : Int) (hm : 0 < m) : 0 ≤ modC n m ∧ modC n m < m := by
  have h := tmod_bound n m hm
  exact ⟨Int.emod_nonneg _ (by omega), Int.emod_lt_of_pos _ hm⟩
theorem mod_any (n m : Int) (hm : 0 < m) (hm2 : m ≤ 1048576) (w : World) :
    Calls Tryz.prog 63 #[.int .i64 n, .int .i64 m] w fun e w' => e = .returned (.int .i64 (modC n m)) ∧ w' = w := by
  have hb := tmod_bound n m hm
  have hw1 : wrap64 (n.tmod m) = n.tmod m := by unfold wrap64; omega
  have hw2 : wrap64 (n.tmod m + m) = n.tmod m + m := by unfold wrap64; omega
  have hb3 := modC_bound n m hm
  have hw3 : wrap64 ((n.tmod m + m) % m) = (n.tmod m + m) % m := by unfold modC at hb3; unfold wrap64; omega
  have hz : (m == 0) = false := by simp; omega
  have hz2 : ¬ m = 0 := by omega
  have hz3 : ¬ m = -1 := by omega
  go_enter Tryz.func63, Tryz.ntmps63
  go_wp2
  go_ret
  exact ⟨rfl, rfl⟩
end Go.Proofs.YtelfnmohpjkilaaGreatDoor
