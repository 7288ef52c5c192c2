/- The examples of law13.sanity: plain facts. -/
import Derived.Test.YtgndbpkgehjelaaFinest
import Derived.Test.YtgndbpkgehjelaaGroups
import Derived.Test.YtgndbpkgehjelaaMoved
import Derived.Test.YtgndbpkgehjelaaRot04
namespace Go.Proofs.Ytgndbpkgehjelaa
open Go.RowKit Go.Sort Go.Shelf
def exT : Tri := ((5, 9, 1), (2, 12, 1), (6, 10, 3))
def exU : Tri := ((13, 9, 1), (10, 12, 1), (14, 10, 3))
def exR : Tri := ((2, 12, 1), (6, 10, 3), (5, 9, 1))
def exS : Tri := ((10, 12, 1), (14, 10, 3), (13, 9, 1))
theorem ex_moved : movT (8, 0, 0) exT = exU := by simp [movT, movN, movP, exT, exU, wrap64]
theorem ex_rotT : rotR exT = exR := by decide
theorem ex_rotU : rotR exU = exS := by decide
theorem ex_rot : rotT exT = exR ∧ rotT exU = exS := by decide
theorem ex_block : blockP [exT] 2 false = (0, 2, 0) ∧ blockP [exT] 2 true = (1, 2, 0) := by decide
theorem ex_lt : ltT exR exR = false ∧ ltT exS exS = false := by decide
theorem ex_canon5 : canonT [exT, exT, exT, exT, exT] = [exR, exR, exR, exR, exR] := by
  simp [canonT, sortT, ex_rot, List.mergeSort, List.MergeSort.Internal.splitInTwo, List.merge, ex_lt]
theorem ex_canon3 : canonT [exT, exT, exT] = [exR, exR, exR] := by
  simp [canonT, sortT, ex_rot, List.mergeSort, List.MergeSort.Internal.splitInTwo, List.merge, ex_lt]
theorem ex_canon1 : canonT [exU] = [exS] := by
  simp [canonT, sortT, ex_rot, List.mergeSort, List.MergeSort.Internal.splitInTwo, List.merge]
theorem ex_split : splitT 2 [exT, exT, exT, exT, exT] = [[exR, exR], [exR, exR], [exR]] := by
  unfold splitT
  rw [ex_canon5]
  decide
theorem ex_split3 : splitT 2 [exT, exT, exT] = [[exR, exR], [exR]] := by
  unfold splitT
  rw [ex_canon3]
  decide
theorem ex_split1 : splitT 2 [exU] = [[exS]] := by
  unfold splitT
  rw [ex_canon1]
  decide
theorem ex_sortP : sortP [(2, 2, 0), (0, 2, 0)] = [(0, 2, 0), (2, 2, 0)] := by
  simp [sortP, List.mergeSort, List.MergeSort.Internal.splitInTwo, List.merge, ltP]
theorem ex_finest : finestT 2 2 [exU, exT, exT, exT] = [[exR, exR], [exR], [exS]] := by
  have h1 : keysOf (keyF 2) [exU, exT, exT, exT] = [(2, 2, 0), (0, 2, 0)] := by decide
  have h2 : grp (keyF 2) [exU, exT, exT, exT] (0, 2, 0) = [exT, exT, exT] := by decide
  have h3 : grp (keyF 2) [exU, exT, exT, exT] (2, 2, 0) = [exU] := by decide
  unfold finestT
  rw [h1, ex_sortP]
  simp only [List.flatMap_cons, List.flatMap_nil, h2, h3, ex_split3, ex_split1]
  rfl
theorem ex_sortP3 : sortP [(0, 2, 0), (2, 2, 0), (0, 0, 0)] = [(0, 0, 0), (0, 2, 0), (2, 2, 0)] := by
  simp [sortP, List.mergeSort, List.MergeSort.Internal.splitInTwo, List.merge, ltP]
theorem ex_groups : groupsL [[exT], [exU], [exT, exU], []] 2 false = [[3], [0, 2], [1]] := by
  have h1 : keysOf (keyL [[exT], [exU], [exT, exU], []] 2 false) (List.range 4) = [(0, 2, 0), (2, 2, 0), (0, 0, 0)] := by decide
  unfold groupsL groupsT
  simp only [List.length_cons, List.length_nil, Nat.zero_add, Nat.reduceAdd]
  rw [h1, ex_sortP3]
  decide
theorem exT_fits : fitsT exT ∧ fitsT exU ∧ fitsT exR ∧ fitsT exS := by
  simp [fitsT, fitsP, fits, exT, exU, exR, exS]
theorem ex_fits4 : ∀ t ∈ [exU, exT, exT, exT], fitsT t := by
  simp only [List.mem_cons, List.not_mem_nil, or_false]
  rintro t (rfl | rfl | rfl | rfl)
  · exact exT_fits.2.1
  all_goals exact exT_fits.1
theorem ex_fitsG : ∀ p ∈ [[exT], [exU], [exT, exU], []], ∀ t ∈ p, fitsT t := by
  simp only [List.mem_cons, List.not_mem_nil, or_false]
  rintro p (rfl | rfl | rfl | rfl) t ht
  all_goals simp only [List.mem_cons, List.not_mem_nil, or_false] at ht
  · subst ht; exact exT_fits.1
  · subst ht; exact exT_fits.2.1
  · rcases ht with rfl | rfl
    · exact exT_fits.1
    · exact exT_fits.2.1
theorem ex_fitsR : ∀ p ∈ [[exR, exR], [exR], [exS]], ∀ t ∈ p, fitsT t := by
  simp only [List.mem_cons, List.not_mem_nil, or_false]
  rintro p (rfl | rfl | rfl) t ht
  all_goals simp only [List.mem_cons, List.not_mem_nil, or_false] at ht
  · rcases ht with rfl | rfl <;> exact exT_fits.2.2.1
  · subst ht; exact exT_fits.2.2.1
  · subst ht; exact exT_fits.2.2.2
end Go.Proofs.Ytgndbpkgehjelaa
