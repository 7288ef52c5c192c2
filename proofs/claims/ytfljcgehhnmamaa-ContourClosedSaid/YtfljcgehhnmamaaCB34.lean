/- Joined texts: Rot04. -/
import Derived.Test.YtfljcgehhnmamaaCB14
import Derived.Test.YtfljcgehhnmamaaCB33
/- ref04.Rotate. -/
namespace Go.Proofs.Ytfljcgehhnmamaa
open Go.RowKit
def rotR (t : Tri) : Tri := if ltP t.2.2 t.1 && (ltP t.2.2 t.2.1 || !ltP t.2.1 t.1) then (t.2.2, t.1, t.2.1) else if ltP t.2.1 t.1 then (t.2.1, t.2.2, t.1) else t
set_option maxHeartbeats 2000000 in
theorem rotateR_any (t : Tri) (w : World) : Calls Try.prog 51 #[vT t] w fun e w' => e = .returned (vT (rotR t)) ∧ Below w.heap.size w w' := by
  go_enter Try.func51, Try.ntmps51
  go_wp2_with fail
  refine (rless_any t.2.1 t.1 _).mono ?_
  rintro e w1 ⟨rfl, hL1⟩
  have b0 : Blk w1 w.heap.size 40 #[.int .i64 t.1.1, .int .i64 t.1.2.1, .int .i64 t.1.2.2, .int .i64 t.2.1.1, .int .i64 t.2.1.2.1, .int .i64 t.2.1.2.2, .int .i64 t.2.2.1, .int .i64 t.2.2.2.1, .int .i64 t.2.2.2.2] := ((Blk.new _ _ _).alloc _).lay hL1
  have b1 : Blk w1 (w.heap.size + 1) 40 #[.int .i64 0, .int .i64 0, .int .i64 0, .int .i64 0, .int .i64 0, .int .i64 0, .int .i64 0, .int .i64 0, .int .i64 0] := (Blk.new' _ _ _ _ (by simp)).lay hL1
  have hL : Lay w w1 := (((Lay.refl _).alloc _).alloc _).trans hL1
  have a0 := b0.cell 0
  have a1 := b0.cell 1
  have a2 := b0.cell 2
  have a3 := b0.cell 3
  have a4 := b0.cell 4
  have a5 := b0.cell 5
  have a6 := b0.cell 6
  have a7 := b0.cell 7
  have a8 := b0.cell 8
  simp only [List.getElem?_toArray, List.getElem?_cons_zero, List.getElem?_cons_succ] at a0 a1 a2 a3 a4 a5 a6 a7 a8
  have H1 := hide (And.intro b0 (And.intro b1 hL))
  clear hL1 b0 b1 hL
  go_wp2_with fail
  refine (rless_any t.2.2 t.1 _).mono ?_
  rintro e w2 ⟨rfl, hL2⟩
  have b0 := H1.out.1.lay hL2
  have b1 := H1.out.2.1.lay hL2
  have hL := H1.out.2.2.trans hL2
  clear a0 a1 a2 a3 a4 a5 a6 a7 a8
  have c0 := b0.cell 0
  have c1 := b0.cell 1
  have c2 := b0.cell 2
  have c3 := b0.cell 3
  have c4 := b0.cell 4
  have c5 := b0.cell 5
  have c6 := b0.cell 6
  have c7 := b0.cell 7
  have c8 := b0.cell 8
  simp only [List.getElem?_toArray, List.getElem?_cons_zero, List.getElem?_cons_succ] at c0 c1 c2 c3 c4 c5 c6 c7 c8
  have H2 := hide (And.intro b0 (And.intro b1 hL))
  clear hL2 b0 b1 hL
  go_wp2_with fail
  refine (rless_any t.2.2 t.2.1 _).mono ?_
  rintro e w3 ⟨rfl, hL3⟩
  have b0 := H2.out.1.lay hL3
  have b1 := H2.out.2.1.lay hL3
  have hL := H2.out.2.2.trans hL3
  clear c0 c1 c2 c3 c4 c5 c6 c7 c8
  have d0 := b0.cell 0
  have d1 := b0.cell 1
  have d2 := b0.cell 2
  have d3 := b0.cell 3
  have d4 := b0.cell 4
  have d5 := b0.cell 5
  have d6 := b0.cell 6
  have d7 := b0.cell 7
  have d8 := b0.cell 8
  simp only [List.getElem?_toArray, List.getElem?_cons_zero, List.getElem?_cons_succ] at d0 d1 d2 d3 d4 d5 d6 d7 d8
  have r0 := b1.cell 0
  have r1 := b1.cell 1
  have r2 := b1.cell 2
  have r3 := b1.cell 3
  have r4 := b1.cell 4
  have r5 := b1.cell 5
  have r6 := b1.cell 6
  have r7 := b1.cell 7
  have r8 := b1.cell 8
  simp only [List.getElem?_toArray, List.getElem?_cons_zero, List.getElem?_cons_succ] at r0 r1 r2 r3 r4 r5 r6 r7 r8
  have f0 := b1.frozen 0
  have f1 := b1.frozen 1
  have f2 := b1.frozen 2
  have f3 := b1.frozen 3
  have f4 := b1.frozen 4
  have f5 := b1.frozen 5
  have f6 := b1.frozen 6
  have f7 := b1.frozen 7
  have f8 := b1.frozen 8
  have H3 := hide (And.intro b0 (And.intro b1 hL))
  clear hL3 b0 b1 hL
  cases h1 : ltP t.2.1 t.1 <;> cases h2 : ltP t.2.2 t.1 <;> cases h3 : ltP t.2.2 t.2.1
  · go_wp2_with fail
    have hR : Blk (((((((((w3.setCell ⟨w.heap.size + 1, 0, none⟩ (.int .i64 t.1.1)).setCell ⟨w.heap.size + 1, 1, none⟩ (.int .i64 t.1.2.1)).setCell ⟨w.heap.size + 1, 2, none⟩ (.int .i64 t.1.2.2)).setCell ⟨w.heap.size + 1, 3, none⟩ (.int .i64 t.2.1.1)).setCell ⟨w.heap.size + 1, 4, none⟩ (.int .i64 t.2.1.2.1)).setCell ⟨w.heap.size + 1, 5, none⟩ (.int .i64 t.2.1.2.2)).setCell ⟨w.heap.size + 1, 6, none⟩ (.int .i64 t.2.2.1)).setCell ⟨w.heap.size + 1, 7, none⟩ (.int .i64 t.2.2.2.1)).setCell ⟨w.heap.size + 1, 8, none⟩ (.int .i64 t.2.2.2.2)) (w.heap.size + 1) 40 #[.int .i64 t.1.1, .int .i64 t.1.2.1, .int .i64 t.1.2.2, .int .i64 t.2.1.1, .int .i64 t.2.1.2.1, .int .i64 t.2.1.2.2, .int .i64 t.2.2.1, .int .i64 t.2.2.2.1, .int .i64 t.2.2.2.2] := H3.out.2.1.set9 (.int .i64 t.1.1) (.int .i64 t.1.2.1) (.int .i64 t.1.2.2) (.int .i64 t.2.1.1) (.int .i64 t.2.1.2.1) (.int .i64 t.2.1.2.2) (.int .i64 t.2.2.1) (.int .i64 t.2.2.2.1) (.int .i64 t.2.2.2.2)
    have hBV : Below w.heap.size w (((((((((w3.setCell ⟨w.heap.size + 1, 0, none⟩ (.int .i64 t.1.1)).setCell ⟨w.heap.size + 1, 1, none⟩ (.int .i64 t.1.2.1)).setCell ⟨w.heap.size + 1, 2, none⟩ (.int .i64 t.1.2.2)).setCell ⟨w.heap.size + 1, 3, none⟩ (.int .i64 t.2.1.1)).setCell ⟨w.heap.size + 1, 4, none⟩ (.int .i64 t.2.1.2.1)).setCell ⟨w.heap.size + 1, 5, none⟩ (.int .i64 t.2.1.2.2)).setCell ⟨w.heap.size + 1, 6, none⟩ (.int .i64 t.2.2.1)).setCell ⟨w.heap.size + 1, 7, none⟩ (.int .i64 t.2.2.2.1)).setCell ⟨w.heap.size + 1, 8, none⟩ (.int .i64 t.2.2.2.2)) := below_set9 H3.out.2.2.below (by simp) (.int .i64 t.1.1) (.int .i64 t.1.2.1) (.int .i64 t.1.2.2) (.int .i64 t.2.1.1) (.int .i64 t.2.1.2.1) (.int .i64 t.2.1.2.2) (.int .i64 t.2.2.1) (.int .i64 t.2.2.2.1) (.int .i64 t.2.2.2.2)
    generalize (((((((((w3.setCell ⟨w.heap.size + 1, 0, none⟩ (.int .i64 t.1.1)).setCell ⟨w.heap.size + 1, 1, none⟩ (.int .i64 t.1.2.1)).setCell ⟨w.heap.size + 1, 2, none⟩ (.int .i64 t.1.2.2)).setCell ⟨w.heap.size + 1, 3, none⟩ (.int .i64 t.2.1.1)).setCell ⟨w.heap.size + 1, 4, none⟩ (.int .i64 t.2.1.2.1)).setCell ⟨w.heap.size + 1, 5, none⟩ (.int .i64 t.2.1.2.2)).setCell ⟨w.heap.size + 1, 6, none⟩ (.int .i64 t.2.2.1)).setCell ⟨w.heap.size + 1, 7, none⟩ (.int .i64 t.2.2.2.1)).setCell ⟨w.heap.size + 1, 8, none⟩ (.int .i64 t.2.2.2.2)) = V at hR hBV ⊢
    have s0 := hR.cell 0
    have s1 := hR.cell 1
    have s2 := hR.cell 2
    have s3 := hR.cell 3
    have s4 := hR.cell 4
    have s5 := hR.cell 5
    have s6 := hR.cell 6
    have s7 := hR.cell 7
    have s8 := hR.cell 8
    simp only [List.getElem?_toArray, List.getElem?_cons_zero, List.getElem?_cons_succ] at s0 s1 s2 s3 s4 s5 s6 s7 s8
    exact bodyPost_ret (v := vT (t.1, t.2.1, t.2.2)) (by simp [results, Try.results51, go_sem, s0, s1, s2, s3, s4, s5, s6, s7, s8]) rfl ⟨by simp [rotR, h1, h2, h3], hBV⟩
  · go_wp2_with fail
    have hR : Blk (((((((((w3.setCell ⟨w.heap.size + 1, 0, none⟩ (.int .i64 t.1.1)).setCell ⟨w.heap.size + 1, 1, none⟩ (.int .i64 t.1.2.1)).setCell ⟨w.heap.size + 1, 2, none⟩ (.int .i64 t.1.2.2)).setCell ⟨w.heap.size + 1, 3, none⟩ (.int .i64 t.2.1.1)).setCell ⟨w.heap.size + 1, 4, none⟩ (.int .i64 t.2.1.2.1)).setCell ⟨w.heap.size + 1, 5, none⟩ (.int .i64 t.2.1.2.2)).setCell ⟨w.heap.size + 1, 6, none⟩ (.int .i64 t.2.2.1)).setCell ⟨w.heap.size + 1, 7, none⟩ (.int .i64 t.2.2.2.1)).setCell ⟨w.heap.size + 1, 8, none⟩ (.int .i64 t.2.2.2.2)) (w.heap.size + 1) 40 #[.int .i64 t.1.1, .int .i64 t.1.2.1, .int .i64 t.1.2.2, .int .i64 t.2.1.1, .int .i64 t.2.1.2.1, .int .i64 t.2.1.2.2, .int .i64 t.2.2.1, .int .i64 t.2.2.2.1, .int .i64 t.2.2.2.2] := H3.out.2.1.set9 (.int .i64 t.1.1) (.int .i64 t.1.2.1) (.int .i64 t.1.2.2) (.int .i64 t.2.1.1) (.int .i64 t.2.1.2.1) (.int .i64 t.2.1.2.2) (.int .i64 t.2.2.1) (.int .i64 t.2.2.2.1) (.int .i64 t.2.2.2.2)
    have hBV : Below w.heap.size w (((((((((w3.setCell ⟨w.heap.size + 1, 0, none⟩ (.int .i64 t.1.1)).setCell ⟨w.heap.size + 1, 1, none⟩ (.int .i64 t.1.2.1)).setCell ⟨w.heap.size + 1, 2, none⟩ (.int .i64 t.1.2.2)).setCell ⟨w.heap.size + 1, 3, none⟩ (.int .i64 t.2.1.1)).setCell ⟨w.heap.size + 1, 4, none⟩ (.int .i64 t.2.1.2.1)).setCell ⟨w.heap.size + 1, 5, none⟩ (.int .i64 t.2.1.2.2)).setCell ⟨w.heap.size + 1, 6, none⟩ (.int .i64 t.2.2.1)).setCell ⟨w.heap.size + 1, 7, none⟩ (.int .i64 t.2.2.2.1)).setCell ⟨w.heap.size + 1, 8, none⟩ (.int .i64 t.2.2.2.2)) := below_set9 H3.out.2.2.below (by simp) (.int .i64 t.1.1) (.int .i64 t.1.2.1) (.int .i64 t.1.2.2) (.int .i64 t.2.1.1) (.int .i64 t.2.1.2.1) (.int .i64 t.2.1.2.2) (.int .i64 t.2.2.1) (.int .i64 t.2.2.2.1) (.int .i64 t.2.2.2.2)
    generalize (((((((((w3.setCell ⟨w.heap.size + 1, 0, none⟩ (.int .i64 t.1.1)).setCell ⟨w.heap.size + 1, 1, none⟩ (.int .i64 t.1.2.1)).setCell ⟨w.heap.size + 1, 2, none⟩ (.int .i64 t.1.2.2)).setCell ⟨w.heap.size + 1, 3, none⟩ (.int .i64 t.2.1.1)).setCell ⟨w.heap.size + 1, 4, none⟩ (.int .i64 t.2.1.2.1)).setCell ⟨w.heap.size + 1, 5, none⟩ (.int .i64 t.2.1.2.2)).setCell ⟨w.heap.size + 1, 6, none⟩ (.int .i64 t.2.2.1)).setCell ⟨w.heap.size + 1, 7, none⟩ (.int .i64 t.2.2.2.1)).setCell ⟨w.heap.size + 1, 8, none⟩ (.int .i64 t.2.2.2.2)) = V at hR hBV ⊢
    have s0 := hR.cell 0
    have s1 := hR.cell 1
    have s2 := hR.cell 2
    have s3 := hR.cell 3
    have s4 := hR.cell 4
    have s5 := hR.cell 5
    have s6 := hR.cell 6
    have s7 := hR.cell 7
    have s8 := hR.cell 8
    simp only [List.getElem?_toArray, List.getElem?_cons_zero, List.getElem?_cons_succ] at s0 s1 s2 s3 s4 s5 s6 s7 s8
    exact bodyPost_ret (v := vT (t.1, t.2.1, t.2.2)) (by simp [results, Try.results51, go_sem, s0, s1, s2, s3, s4, s5, s6, s7, s8]) rfl ⟨by simp [rotR, h1, h2, h3], hBV⟩
  · go_wp2_with fail
    have hR : Blk (((((((((w3.setCell ⟨w.heap.size + 1, 0, none⟩ (.int .i64 t.2.2.1)).setCell ⟨w.heap.size + 1, 1, none⟩ (.int .i64 t.2.2.2.1)).setCell ⟨w.heap.size + 1, 2, none⟩ (.int .i64 t.2.2.2.2)).setCell ⟨w.heap.size + 1, 3, none⟩ (.int .i64 t.1.1)).setCell ⟨w.heap.size + 1, 4, none⟩ (.int .i64 t.1.2.1)).setCell ⟨w.heap.size + 1, 5, none⟩ (.int .i64 t.1.2.2)).setCell ⟨w.heap.size + 1, 6, none⟩ (.int .i64 t.2.1.1)).setCell ⟨w.heap.size + 1, 7, none⟩ (.int .i64 t.2.1.2.1)).setCell ⟨w.heap.size + 1, 8, none⟩ (.int .i64 t.2.1.2.2)) (w.heap.size + 1) 40 #[.int .i64 t.2.2.1, .int .i64 t.2.2.2.1, .int .i64 t.2.2.2.2, .int .i64 t.1.1, .int .i64 t.1.2.1, .int .i64 t.1.2.2, .int .i64 t.2.1.1, .int .i64 t.2.1.2.1, .int .i64 t.2.1.2.2] := H3.out.2.1.set9 (.int .i64 t.2.2.1) (.int .i64 t.2.2.2.1) (.int .i64 t.2.2.2.2) (.int .i64 t.1.1) (.int .i64 t.1.2.1) (.int .i64 t.1.2.2) (.int .i64 t.2.1.1) (.int .i64 t.2.1.2.1) (.int .i64 t.2.1.2.2)
    have hBV : Below w.heap.size w (((((((((w3.setCell ⟨w.heap.size + 1, 0, none⟩ (.int .i64 t.2.2.1)).setCell ⟨w.heap.size + 1, 1, none⟩ (.int .i64 t.2.2.2.1)).setCell ⟨w.heap.size + 1, 2, none⟩ (.int .i64 t.2.2.2.2)).setCell ⟨w.heap.size + 1, 3, none⟩ (.int .i64 t.1.1)).setCell ⟨w.heap.size + 1, 4, none⟩ (.int .i64 t.1.2.1)).setCell ⟨w.heap.size + 1, 5, none⟩ (.int .i64 t.1.2.2)).setCell ⟨w.heap.size + 1, 6, none⟩ (.int .i64 t.2.1.1)).setCell ⟨w.heap.size + 1, 7, none⟩ (.int .i64 t.2.1.2.1)).setCell ⟨w.heap.size + 1, 8, none⟩ (.int .i64 t.2.1.2.2)) := below_set9 H3.out.2.2.below (by simp) (.int .i64 t.2.2.1) (.int .i64 t.2.2.2.1) (.int .i64 t.2.2.2.2) (.int .i64 t.1.1) (.int .i64 t.1.2.1) (.int .i64 t.1.2.2) (.int .i64 t.2.1.1) (.int .i64 t.2.1.2.1) (.int .i64 t.2.1.2.2)
    generalize (((((((((w3.setCell ⟨w.heap.size + 1, 0, none⟩ (.int .i64 t.2.2.1)).setCell ⟨w.heap.size + 1, 1, none⟩ (.int .i64 t.2.2.2.1)).setCell ⟨w.heap.size + 1, 2, none⟩ (.int .i64 t.2.2.2.2)).setCell ⟨w.heap.size + 1, 3, none⟩ (.int .i64 t.1.1)).setCell ⟨w.heap.size + 1, 4, none⟩ (.int .i64 t.1.2.1)).setCell ⟨w.heap.size + 1, 5, none⟩ (.int .i64 t.1.2.2)).setCell ⟨w.heap.size + 1, 6, none⟩ (.int .i64 t.2.1.1)).setCell ⟨w.heap.size + 1, 7, none⟩ (.int .i64 t.2.1.2.1)).setCell ⟨w.heap.size + 1, 8, none⟩ (.int .i64 t.2.1.2.2)) = V at hR hBV ⊢
    have s0 := hR.cell 0
    have s1 := hR.cell 1
    have s2 := hR.cell 2
    have s3 := hR.cell 3
    have s4 := hR.cell 4
    have s5 := hR.cell 5
    have s6 := hR.cell 6
    have s7 := hR.cell 7
    have s8 := hR.cell 8
    simp only [List.getElem?_toArray, List.getElem?_cons_zero, List.getElem?_cons_succ] at s0 s1 s2 s3 s4 s5 s6 s7 s8
    exact bodyPost_ret (v := vT (t.2.2, t.1, t.2.1)) (by simp [results, Try.results51, go_sem, s0, s1, s2, s3, s4, s5, s6, s7, s8]) rfl ⟨by simp [rotR, h1, h2, h3], hBV⟩
  · go_wp2_with fail
    have hR : Blk (((((((((w3.setCell ⟨w.heap.size + 1, 0, none⟩ (.int .i64 t.2.2.1)).setCell ⟨w.heap.size + 1, 1, none⟩ (.int .i64 t.2.2.2.1)).setCell ⟨w.heap.size + 1, 2, none⟩ (.int .i64 t.2.2.2.2)).setCell ⟨w.heap.size + 1, 3, none⟩ (.int .i64 t.1.1)).setCell ⟨w.heap.size + 1, 4, none⟩ (.int .i64 t.1.2.1)).setCell ⟨w.heap.size + 1, 5, none⟩ (.int .i64 t.1.2.2)).setCell ⟨w.heap.size + 1, 6, none⟩ (.int .i64 t.2.1.1)).setCell ⟨w.heap.size + 1, 7, none⟩ (.int .i64 t.2.1.2.1)).setCell ⟨w.heap.size + 1, 8, none⟩ (.int .i64 t.2.1.2.2)) (w.heap.size + 1) 40 #[.int .i64 t.2.2.1, .int .i64 t.2.2.2.1, .int .i64 t.2.2.2.2, .int .i64 t.1.1, .int .i64 t.1.2.1, .int .i64 t.1.2.2, .int .i64 t.2.1.1, .int .i64 t.2.1.2.1, .int .i64 t.2.1.2.2] := H3.out.2.1.set9 (.int .i64 t.2.2.1) (.int .i64 t.2.2.2.1) (.int .i64 t.2.2.2.2) (.int .i64 t.1.1) (.int .i64 t.1.2.1) (.int .i64 t.1.2.2) (.int .i64 t.2.1.1) (.int .i64 t.2.1.2.1) (.int .i64 t.2.1.2.2)
    have hBV : Below w.heap.size w (((((((((w3.setCell ⟨w.heap.size + 1, 0, none⟩ (.int .i64 t.2.2.1)).setCell ⟨w.heap.size + 1, 1, none⟩ (.int .i64 t.2.2.2.1)).setCell ⟨w.heap.size + 1, 2, none⟩ (.int .i64 t.2.2.2.2)).setCell ⟨w.heap.size + 1, 3, none⟩ (.int .i64 t.1.1)).setCell ⟨w.heap.size + 1, 4, none⟩ (.int .i64 t.1.2.1)).setCell ⟨w.heap.size + 1, 5, none⟩ (.int .i64 t.1.2.2)).setCell ⟨w.heap.size + 1, 6, none⟩ (.int .i64 t.2.1.1)).setCell ⟨w.heap.size + 1, 7, none⟩ (.int .i64 t.2.1.2.1)).setCell ⟨w.heap.size + 1, 8, none⟩ (.int .i64 t.2.1.2.2)) := below_set9 H3.out.2.2.below (by simp) (.int .i64 t.2.2.1) (.int .i64 t.2.2.2.1) (.int .i64 t.2.2.2.2) (.int .i64 t.1.1) (.int .i64 t.1.2.1) (.int .i64 t.1.2.2) (.int .i64 t.2.1.1) (.int .i64 t.2.1.2.1) (.int .i64 t.2.1.2.2)
    generalize (((((((((w3.setCell ⟨w.heap.size + 1, 0, none⟩ (.int .i64 t.2.2.1)).setCell ⟨w.heap.size + 1, 1, none⟩ (.int .i64 t.2.2.2.1)).setCell ⟨w.heap.size + 1, 2, none⟩ (.int .i64 t.2.2.2.2)).setCell ⟨w.heap.size + 1, 3, none⟩ (.int .i64 t.1.1)).setCell ⟨w.heap.size + 1, 4, none⟩ (.int .i64 t.1.2.1)).setCell ⟨w.heap.size + 1, 5, none⟩ (.int .i64 t.1.2.2)).setCell ⟨w.heap.size + 1, 6, none⟩ (.int .i64 t.2.1.1)).setCell ⟨w.heap.size + 1, 7, none⟩ (.int .i64 t.2.1.2.1)).setCell ⟨w.heap.size + 1, 8, none⟩ (.int .i64 t.2.1.2.2)) = V at hR hBV ⊢
    have s0 := hR.cell 0
    have s1 := hR.cell 1
    have s2 := hR.cell 2
    have s3 := hR.cell 3
    have s4 := hR.cell 4
    have s5 := hR.cell 5
    have s6 := hR.cell 6
    have s7 := hR.cell 7
    have s8 := hR.cell 8
    simp only [List.getElem?_toArray, List.getElem?_cons_zero, List.getElem?_cons_succ] at s0 s1 s2 s3 s4 s5 s6 s7 s8
    exact bodyPost_ret (v := vT (t.2.2, t.1, t.2.1)) (by simp [results, Try.results51, go_sem, s0, s1, s2, s3, s4, s5, s6, s7, s8]) rfl ⟨by simp [rotR, h1, h2, h3], hBV⟩
  · go_wp2_with fail
    have hR : Blk (((((((((w3.setCell ⟨w.heap.size + 1, 0, none⟩ (.int .i64 t.2.1.1)).setCell ⟨w.heap.size + 1, 1, none⟩ (.int .i64 t.2.1.2.1)).setCell ⟨w.heap.size + 1, 2, none⟩ (.int .i64 t.2.1.2.2)).setCell ⟨w.heap.size + 1, 3, none⟩ (.int .i64 t.2.2.1)).setCell ⟨w.heap.size + 1, 4, none⟩ (.int .i64 t.2.2.2.1)).setCell ⟨w.heap.size + 1, 5, none⟩ (.int .i64 t.2.2.2.2)).setCell ⟨w.heap.size + 1, 6, none⟩ (.int .i64 t.1.1)).setCell ⟨w.heap.size + 1, 7, none⟩ (.int .i64 t.1.2.1)).setCell ⟨w.heap.size + 1, 8, none⟩ (.int .i64 t.1.2.2)) (w.heap.size + 1) 40 #[.int .i64 t.2.1.1, .int .i64 t.2.1.2.1, .int .i64 t.2.1.2.2, .int .i64 t.2.2.1, .int .i64 t.2.2.2.1, .int .i64 t.2.2.2.2, .int .i64 t.1.1, .int .i64 t.1.2.1, .int .i64 t.1.2.2] := H3.out.2.1.set9 (.int .i64 t.2.1.1) (.int .i64 t.2.1.2.1) (.int .i64 t.2.1.2.2) (.int .i64 t.2.2.1) (.int .i64 t.2.2.2.1) (.int .i64 t.2.2.2.2) (.int .i64 t.1.1) (.int .i64 t.1.2.1) (.int .i64 t.1.2.2)
    have hBV : Below w.heap.size w (((((((((w3.setCell ⟨w.heap.size + 1, 0, none⟩ (.int .i64 t.2.1.1)).setCell ⟨w.heap.size + 1, 1, none⟩ (.int .i64 t.2.1.2.1)).setCell ⟨w.heap.size + 1, 2, none⟩ (.int .i64 t.2.1.2.2)).setCell ⟨w.heap.size + 1, 3, none⟩ (.int .i64 t.2.2.1)).setCell ⟨w.heap.size + 1, 4, none⟩ (.int .i64 t.2.2.2.1)).setCell ⟨w.heap.size + 1, 5, none⟩ (.int .i64 t.2.2.2.2)).setCell ⟨w.heap.size + 1, 6, none⟩ (.int .i64 t.1.1)).setCell ⟨w.heap.size + 1, 7, none⟩ (.int .i64 t.1.2.1)).setCell ⟨w.heap.size + 1, 8, none⟩ (.int .i64 t.1.2.2)) := below_set9 H3.out.2.2.below (by simp) (.int .i64 t.2.1.1) (.int .i64 t.2.1.2.1) (.int .i64 t.2.1.2.2) (.int .i64 t.2.2.1) (.int .i64 t.2.2.2.1) (.int .i64 t.2.2.2.2) (.int .i64 t.1.1) (.int .i64 t.1.2.1) (.int .i64 t.1.2.2)
    generalize (((((((((w3.setCell ⟨w.heap.size + 1, 0, none⟩ (.int .i64 t.2.1.1)).setCell ⟨w.heap.size + 1, 1, none⟩ (.int .i64 t.2.1.2.1)).setCell ⟨w.heap.size + 1, 2, none⟩ (.int .i64 t.2.1.2.2)).setCell ⟨w.heap.size + 1, 3, none⟩ (.int .i64 t.2.2.1)).setCell ⟨w.heap.size + 1, 4, none⟩ (.int .i64 t.2.2.2.1)).setCell ⟨w.heap.size + 1, 5, none⟩ (.int .i64 t.2.2.2.2)).setCell ⟨w.heap.size + 1, 6, none⟩ (.int .i64 t.1.1)).setCell ⟨w.heap.size + 1, 7, none⟩ (.int .i64 t.1.2.1)).setCell ⟨w.heap.size + 1, 8, none⟩ (.int .i64 t.1.2.2)) = V at hR hBV ⊢
    have s0 := hR.cell 0
    have s1 := hR.cell 1
    have s2 := hR.cell 2
    have s3 := hR.cell 3
    have s4 := hR.cell 4
    have s5 := hR.cell 5
    have s6 := hR.cell 6
    have s7 := hR.cell 7
    have s8 := hR.cell 8
    simp only [List.getElem?_toArray, List.getElem?_cons_zero, List.getElem?_cons_succ] at s0 s1 s2 s3 s4 s5 s6 s7 s8
    exact bodyPost_ret (v := vT (t.2.1, t.2.2, t.1)) (by simp [results, Try.results51, go_sem, s0, s1, s2, s3, s4, s5, s6, s7, s8]) rfl ⟨by simp [rotR, h1, h2, h3], hBV⟩
  · go_wp2_with fail
    have hR : Blk (((((((((w3.setCell ⟨w.heap.size + 1, 0, none⟩ (.int .i64 t.2.1.1)).setCell ⟨w.heap.size + 1, 1, none⟩ (.int .i64 t.2.1.2.1)).setCell ⟨w.heap.size + 1, 2, none⟩ (.int .i64 t.2.1.2.2)).setCell ⟨w.heap.size + 1, 3, none⟩ (.int .i64 t.2.2.1)).setCell ⟨w.heap.size + 1, 4, none⟩ (.int .i64 t.2.2.2.1)).setCell ⟨w.heap.size + 1, 5, none⟩ (.int .i64 t.2.2.2.2)).setCell ⟨w.heap.size + 1, 6, none⟩ (.int .i64 t.1.1)).setCell ⟨w.heap.size + 1, 7, none⟩ (.int .i64 t.1.2.1)).setCell ⟨w.heap.size + 1, 8, none⟩ (.int .i64 t.1.2.2)) (w.heap.size + 1) 40 #[.int .i64 t.2.1.1, .int .i64 t.2.1.2.1, .int .i64 t.2.1.2.2, .int .i64 t.2.2.1, .int .i64 t.2.2.2.1, .int .i64 t.2.2.2.2, .int .i64 t.1.1, .int .i64 t.1.2.1, .int .i64 t.1.2.2] := H3.out.2.1.set9 (.int .i64 t.2.1.1) (.int .i64 t.2.1.2.1) (.int .i64 t.2.1.2.2) (.int .i64 t.2.2.1) (.int .i64 t.2.2.2.1) (.int .i64 t.2.2.2.2) (.int .i64 t.1.1) (.int .i64 t.1.2.1) (.int .i64 t.1.2.2)
    have hBV : Below w.heap.size w (((((((((w3.setCell ⟨w.heap.size + 1, 0, none⟩ (.int .i64 t.2.1.1)).setCell ⟨w.heap.size + 1, 1, none⟩ (.int .i64 t.2.1.2.1)).setCell ⟨w.heap.size + 1, 2, none⟩ (.int .i64 t.2.1.2.2)).setCell ⟨w.heap.size + 1, 3, none⟩ (.int .i64 t.2.2.1)).setCell ⟨w.heap.size + 1, 4, none⟩ (.int .i64 t.2.2.2.1)).setCell ⟨w.heap.size + 1, 5, none⟩ (.int .i64 t.2.2.2.2)).setCell ⟨w.heap.size + 1, 6, none⟩ (.int .i64 t.1.1)).setCell ⟨w.heap.size + 1, 7, none⟩ (.int .i64 t.1.2.1)).setCell ⟨w.heap.size + 1, 8, none⟩ (.int .i64 t.1.2.2)) := below_set9 H3.out.2.2.below (by simp) (.int .i64 t.2.1.1) (.int .i64 t.2.1.2.1) (.int .i64 t.2.1.2.2) (.int .i64 t.2.2.1) (.int .i64 t.2.2.2.1) (.int .i64 t.2.2.2.2) (.int .i64 t.1.1) (.int .i64 t.1.2.1) (.int .i64 t.1.2.2)
    generalize (((((((((w3.setCell ⟨w.heap.size + 1, 0, none⟩ (.int .i64 t.2.1.1)).setCell ⟨w.heap.size + 1, 1, none⟩ (.int .i64 t.2.1.2.1)).setCell ⟨w.heap.size + 1, 2, none⟩ (.int .i64 t.2.1.2.2)).setCell ⟨w.heap.size + 1, 3, none⟩ (.int .i64 t.2.2.1)).setCell ⟨w.heap.size + 1, 4, none⟩ (.int .i64 t.2.2.2.1)).setCell ⟨w.heap.size + 1, 5, none⟩ (.int .i64 t.2.2.2.2)).setCell ⟨w.heap.size + 1, 6, none⟩ (.int .i64 t.1.1)).setCell ⟨w.heap.size + 1, 7, none⟩ (.int .i64 t.1.2.1)).setCell ⟨w.heap.size + 1, 8, none⟩ (.int .i64 t.1.2.2)) = V at hR hBV ⊢
    have s0 := hR.cell 0
    have s1 := hR.cell 1
    have s2 := hR.cell 2
    have s3 := hR.cell 3
    have s4 := hR.cell 4
    have s5 := hR.cell 5
    have s6 := hR.cell 6
    have s7 := hR.cell 7
    have s8 := hR.cell 8
    simp only [List.getElem?_toArray, List.getElem?_cons_zero, List.getElem?_cons_succ] at s0 s1 s2 s3 s4 s5 s6 s7 s8
    exact bodyPost_ret (v := vT (t.2.1, t.2.2, t.1)) (by simp [results, Try.results51, go_sem, s0, s1, s2, s3, s4, s5, s6, s7, s8]) rfl ⟨by simp [rotR, h1, h2, h3], hBV⟩
  · go_wp2_with fail
    have hR : Blk (((((((((w3.setCell ⟨w.heap.size + 1, 0, none⟩ (.int .i64 t.2.1.1)).setCell ⟨w.heap.size + 1, 1, none⟩ (.int .i64 t.2.1.2.1)).setCell ⟨w.heap.size + 1, 2, none⟩ (.int .i64 t.2.1.2.2)).setCell ⟨w.heap.size + 1, 3, none⟩ (.int .i64 t.2.2.1)).setCell ⟨w.heap.size + 1, 4, none⟩ (.int .i64 t.2.2.2.1)).setCell ⟨w.heap.size + 1, 5, none⟩ (.int .i64 t.2.2.2.2)).setCell ⟨w.heap.size + 1, 6, none⟩ (.int .i64 t.1.1)).setCell ⟨w.heap.size + 1, 7, none⟩ (.int .i64 t.1.2.1)).setCell ⟨w.heap.size + 1, 8, none⟩ (.int .i64 t.1.2.2)) (w.heap.size + 1) 40 #[.int .i64 t.2.1.1, .int .i64 t.2.1.2.1, .int .i64 t.2.1.2.2, .int .i64 t.2.2.1, .int .i64 t.2.2.2.1, .int .i64 t.2.2.2.2, .int .i64 t.1.1, .int .i64 t.1.2.1, .int .i64 t.1.2.2] := H3.out.2.1.set9 (.int .i64 t.2.1.1) (.int .i64 t.2.1.2.1) (.int .i64 t.2.1.2.2) (.int .i64 t.2.2.1) (.int .i64 t.2.2.2.1) (.int .i64 t.2.2.2.2) (.int .i64 t.1.1) (.int .i64 t.1.2.1) (.int .i64 t.1.2.2)
    have hBV : Below w.heap.size w (((((((((w3.setCell ⟨w.heap.size + 1, 0, none⟩ (.int .i64 t.2.1.1)).setCell ⟨w.heap.size + 1, 1, none⟩ (.int .i64 t.2.1.2.1)).setCell ⟨w.heap.size + 1, 2, none⟩ (.int .i64 t.2.1.2.2)).setCell ⟨w.heap.size + 1, 3, none⟩ (.int .i64 t.2.2.1)).setCell ⟨w.heap.size + 1, 4, none⟩ (.int .i64 t.2.2.2.1)).setCell ⟨w.heap.size + 1, 5, none⟩ (.int .i64 t.2.2.2.2)).setCell ⟨w.heap.size + 1, 6, none⟩ (.int .i64 t.1.1)).setCell ⟨w.heap.size + 1, 7, none⟩ (.int .i64 t.1.2.1)).setCell ⟨w.heap.size + 1, 8, none⟩ (.int .i64 t.1.2.2)) := below_set9 H3.out.2.2.below (by simp) (.int .i64 t.2.1.1) (.int .i64 t.2.1.2.1) (.int .i64 t.2.1.2.2) (.int .i64 t.2.2.1) (.int .i64 t.2.2.2.1) (.int .i64 t.2.2.2.2) (.int .i64 t.1.1) (.int .i64 t.1.2.1) (.int .i64 t.1.2.2)
    generalize (((((((((w3.setCell ⟨w.heap.size + 1, 0, none⟩ (.int .i64 t.2.1.1)).setCell ⟨w.heap.size + 1, 1, none⟩ (.int .i64 t.2.1.2.1)).setCell ⟨w.heap.size + 1, 2, none⟩ (.int .i64 t.2.1.2.2)).setCell ⟨w.heap.size + 1, 3, none⟩ (.int .i64 t.2.2.1)).setCell ⟨w.heap.size + 1, 4, none⟩ (.int .i64 t.2.2.2.1)).setCell ⟨w.heap.size + 1, 5, none⟩ (.int .i64 t.2.2.2.2)).setCell ⟨w.heap.size + 1, 6, none⟩ (.int .i64 t.1.1)).setCell ⟨w.heap.size + 1, 7, none⟩ (.int .i64 t.1.2.1)).setCell ⟨w.heap.size + 1, 8, none⟩ (.int .i64 t.1.2.2)) = V at hR hBV ⊢
    have s0 := hR.cell 0
    have s1 := hR.cell 1
    have s2 := hR.cell 2
    have s3 := hR.cell 3
    have s4 := hR.cell 4
    have s5 := hR.cell 5
    have s6 := hR.cell 6
    have s7 := hR.cell 7
    have s8 := hR.cell 8
    simp only [List.getElem?_toArray, List.getElem?_cons_zero, List.getElem?_cons_succ] at s0 s1 s2 s3 s4 s5 s6 s7 s8
    exact bodyPost_ret (v := vT (t.2.1, t.2.2, t.1)) (by simp [results, Try.results51, go_sem, s0, s1, s2, s3, s4, s5, s6, s7, s8]) rfl ⟨by simp [rotR, h1, h2, h3], hBV⟩
  · go_wp2_with fail
    have hR : Blk (((((((((w3.setCell ⟨w.heap.size + 1, 0, none⟩ (.int .i64 t.2.2.1)).setCell ⟨w.heap.size + 1, 1, none⟩ (.int .i64 t.2.2.2.1)).setCell ⟨w.heap.size + 1, 2, none⟩ (.int .i64 t.2.2.2.2)).setCell ⟨w.heap.size + 1, 3, none⟩ (.int .i64 t.1.1)).setCell ⟨w.heap.size + 1, 4, none⟩ (.int .i64 t.1.2.1)).setCell ⟨w.heap.size + 1, 5, none⟩ (.int .i64 t.1.2.2)).setCell ⟨w.heap.size + 1, 6, none⟩ (.int .i64 t.2.1.1)).setCell ⟨w.heap.size + 1, 7, none⟩ (.int .i64 t.2.1.2.1)).setCell ⟨w.heap.size + 1, 8, none⟩ (.int .i64 t.2.1.2.2)) (w.heap.size + 1) 40 #[.int .i64 t.2.2.1, .int .i64 t.2.2.2.1, .int .i64 t.2.2.2.2, .int .i64 t.1.1, .int .i64 t.1.2.1, .int .i64 t.1.2.2, .int .i64 t.2.1.1, .int .i64 t.2.1.2.1, .int .i64 t.2.1.2.2] := H3.out.2.1.set9 (.int .i64 t.2.2.1) (.int .i64 t.2.2.2.1) (.int .i64 t.2.2.2.2) (.int .i64 t.1.1) (.int .i64 t.1.2.1) (.int .i64 t.1.2.2) (.int .i64 t.2.1.1) (.int .i64 t.2.1.2.1) (.int .i64 t.2.1.2.2)
    have hBV : Below w.heap.size w (((((((((w3.setCell ⟨w.heap.size + 1, 0, none⟩ (.int .i64 t.2.2.1)).setCell ⟨w.heap.size + 1, 1, none⟩ (.int .i64 t.2.2.2.1)).setCell ⟨w.heap.size + 1, 2, none⟩ (.int .i64 t.2.2.2.2)).setCell ⟨w.heap.size + 1, 3, none⟩ (.int .i64 t.1.1)).setCell ⟨w.heap.size + 1, 4, none⟩ (.int .i64 t.1.2.1)).setCell ⟨w.heap.size + 1, 5, none⟩ (.int .i64 t.1.2.2)).setCell ⟨w.heap.size + 1, 6, none⟩ (.int .i64 t.2.1.1)).setCell ⟨w.heap.size + 1, 7, none⟩ (.int .i64 t.2.1.2.1)).setCell ⟨w.heap.size + 1, 8, none⟩ (.int .i64 t.2.1.2.2)) := below_set9 H3.out.2.2.below (by simp) (.int .i64 t.2.2.1) (.int .i64 t.2.2.2.1) (.int .i64 t.2.2.2.2) (.int .i64 t.1.1) (.int .i64 t.1.2.1) (.int .i64 t.1.2.2) (.int .i64 t.2.1.1) (.int .i64 t.2.1.2.1) (.int .i64 t.2.1.2.2)
    generalize (((((((((w3.setCell ⟨w.heap.size + 1, 0, none⟩ (.int .i64 t.2.2.1)).setCell ⟨w.heap.size + 1, 1, none⟩ (.int .i64 t.2.2.2.1)).setCell ⟨w.heap.size + 1, 2, none⟩ (.int .i64 t.2.2.2.2)).setCell ⟨w.heap.size + 1, 3, none⟩ (.int .i64 t.1.1)).setCell ⟨w.heap.size + 1, 4, none⟩ (.int .i64 t.1.2.1)).setCell ⟨w.heap.size + 1, 5, none⟩ (.int .i64 t.1.2.2)).setCell ⟨w.heap.size + 1, 6, none⟩ (.int .i64 t.2.1.1)).setCell ⟨w.heap.size + 1, 7, none⟩ (.int .i64 t.2.1.2.1)).setCell ⟨w.heap.size + 1, 8, none⟩ (.int .i64 t.2.1.2.2)) = V at hR hBV ⊢
    have s0 := hR.cell 0
    have s1 := hR.cell 1
    have s2 := hR.cell 2
    have s3 := hR.cell 3
    have s4 := hR.cell 4
    have s5 := hR.cell 5
    have s6 := hR.cell 6
    have s7 := hR.cell 7
    have s8 := hR.cell 8
    simp only [List.getElem?_toArray, List.getElem?_cons_zero, List.getElem?_cons_succ] at s0 s1 s2 s3 s4 s5 s6 s7 s8
    exact bodyPost_ret (v := vT (t.2.2, t.1, t.2.1)) (by simp [results, Try.results51, go_sem, s0, s1, s2, s3, s4, s5, s6, s7, s8]) rfl ⟨by simp [rotR, h1, h2, h3], hBV⟩
end Go.Proofs.Ytfljcgehhnmamaa
