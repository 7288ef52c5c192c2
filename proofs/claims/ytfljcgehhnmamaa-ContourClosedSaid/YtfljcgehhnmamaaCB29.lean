/- Joined texts: Ord. -/
import Derived.Shelf.SlSortCmp.NoneTotal
import Derived.Test.YtfljcgehhnmamaaCB14
/- The comparing functions give the order of points and of triangles. -/
namespace Go.Proofs.Ytfljcgehhnmamaa
open Go.RowKit Go.Sort
theorem ltOf_cmpP : ltOf cmpP = ltP := by
  funext a b
  unfold ltOf
  rw [Bool.eq_iff_iff]
  simp [cmpP_neg]
theorem ltOf_cmpT : ltOf cmpT = ltT := by
  funext s t
  obtain ⟨a, b, c⟩ := s
  obtain ⟨d, e, f⟩ := t
  unfold ltOf cmpT orI ltT lexB
  rw [Bool.eq_iff_iff]
  simp only [decide_eq_true_eq, Bool.or_eq_true, Bool.and_eq_true, ← cmpP_neg, ← cmpP_zero]
  by_cases h1 : cmpP a d = 0
  · by_cases h2 : cmpP b e = 0
    · simp [h1, h2]
    · simp [h1, h2]
  · simp [h1]
end Go.Proofs.Ytfljcgehhnmamaa
