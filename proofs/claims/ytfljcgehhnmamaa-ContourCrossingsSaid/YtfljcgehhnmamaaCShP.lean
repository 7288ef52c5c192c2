/- Layer 8, plain: a cell's triangles are those of the first cell, moved. No program. -/
import Derived.Test.YtfljcgehhnmamaaCB28
namespace Go.Proofs.Ytfljcgehhnmamaa
open Go.RowKit
def shT (v : Pt) (t : Tri) : Tri := (addP v t.1, addP v t.2.1, addP v t.2.2)
theorem sum_shift (v : Pt) (l : List Pt) : sumP (l.map (addP v)) = ((l.length : Int) * v.1 + (sumP l).1, (l.length : Int) * v.2.1 + (sumP l).2.1, (l.length : Int) * v.2.2 + (sumP l).2.2) := by
  induction l with
  | nil => simp [sumP]
  | cons x l ih =>
    have e1 : sumP ((x :: l).map (addP v)) = addP (addP v x) (sumP (l.map (addP v))) := by
      rw [List.map_cons, sumP, List.foldl_cons, foldl_addP]
      simp [addP]
    have e2 : sumP (x :: l) = addP x (sumP l) := by
      rw [sumP, List.foldl_cons, foldl_addP]
      simp [addP]
    rw [e1, e2, ih]
    simp only [addP, List.length_cons, Prod.mk.injEq]
    push_cast
    refine ⟨?_, ?_, ?_⟩ <;> (rw [Int.add_mul]; omega)
theorem ctr_shift (v : Pt) {l : List Pt} (h0 : 0 < l.length) : ctrP (l.map (addP v)) = addP v (ctrP l) := by
  have hm : (l.length : Int) ≠ 0 := by omega
  unfold ctrP
  rw [sum_shift, List.length_map]
  simp only [addP, Prod.mk.injEq]
  refine ⟨?_, ?_, ?_⟩ <;> rw [Int.add_comm, Int.add_mul_ediv_left _ _ hm, Int.add_comm]
theorem fan_shift (v : Pt) {l : List Pt} (h0 : 0 < l.length) : fanP (l.map (addP v)) = (fanP l).map (shT v) := by
  unfold fanP
  rw [List.length_map]
  split
  · rename_i h3
    rw [nthP_map _ (by omega), nthP_map _ (by omega), nthP_map _ (by omega)]
    rfl
  · unfold fanN
    rw [List.map_map, List.length_map, ctr_shift v h0]
    refine List.map_congr_left fun i hi => ?_
    have hi := List.mem_range.1 hi
    rw [nthP_map _ hi, nthP_map _ (Nat.mod_lt _ h0)]
    rfl
theorem pointP_shift (c : Pt) (h : Int) (p : Pt) : pointP c h p = addP (c.1 * h, c.2.1 * h, c.2.2 * h) (pointP (0, 0, 0) h p) := by
  simp [pointP, addP]
theorem cellTs_shift {l : List Bool} (hl : l.length = 8) (c : Pt) (h : Int) : cellTs l c h = (cellTs l (0, 0, 0) h).map (shT (c.1 * h, c.2.1 * h, c.2.2 * h)) := by
  have hc := cyc_of l hl
  unfold cellTs
  rw [List.map_flatMap]
  have key : ∀ R : List (List Pt), (∀ C ∈ R, C ≠ []) → (R.flatMap fun C => fanP (C.map (pointP c h))) = R.flatMap fun C => (fanP (C.map (pointP (0, 0, 0) h))).map (shT (c.1 * h, c.2.1 * h, c.2.2 * h)) := by
    intro R
    induction R with
    | nil => intro _; rfl
    | cons C R ih =>
      intro hR
      rw [List.flatMap_cons, List.flatMap_cons, ih fun D hD => hR D (by simp [hD])]
      congr 1
      have hp : C.map (pointP c h) = (C.map (pointP (0, 0, 0) h)).map (addP (c.1 * h, c.2.1 * h, c.2.2 * h)) := by
        rw [List.map_map]
        exact List.map_congr_left fun p _ => pointP_shift c h p
      rw [hp, fan_shift _ (by rw [List.length_map]; exact List.length_pos_iff.2 (hR C (by simp)))]
  exact key _ hc.ne
end Go.Proofs.Ytfljcgehhnmamaa
