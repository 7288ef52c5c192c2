/- Joined texts: Open. -/
import Derived.Test.YtgndbpkgehjelaaCB6
import Derived.Test.YtgndbpkgehjelaaCB15
/- Arguments of three points, opened. -/
namespace Go.Proofs.Ytgndbpkgehjelaa
open Go.ChangeShapes Go.WideShapes Go.ChangeAt Go.RowKit
theorem fits_wf' {n : Int} (h : (Lit.int .i64 n).wf = true) : fits n := by
  simp [Lit.wf, IntKind.min, IntKind.max, IntKind.signed, IntKind.bits] at h
  unfold fits; omega
theorem list3 : ∀ {l : List Value}, l.length = 3 → ∃ v0 v1 v2, l = [v0, v1, v2]
  | [v0, v1, v2], _ => ⟨v0, v1, v2, rfl⟩
theorem list9 : ∀ {l : List Value}, l.length = 9 → ∃ a0 a1 a2 a3 a4 a5 a6 a7 a8, l = [a0, a1, a2, a3, a4, a5, a6, a7, a8]
  | [a0, a1, a2, a3, a4, a5, a6, a7, a8], _ => ⟨a0, a1, a2, a3, a4, a5, a6, a7, a8, rfl⟩
set_option maxRecDepth 100000 in
/-- Three cells that read as a point. -/
theorem open_point {H : Type} {enc : TypeId × Value → H} {W : World} {sp : Nat → Bool} {n : Nat} {cs : List Value} {x : DataW H × List MemPlace} (h : DataW.trod enc Try.prog W 0 sp true n 23 cs = some x) : ∃ p : Pt, cs = encP p ∧ fitsP p := by
  have c : Try.prog.cellsOf 23 = 3 := by kernel_rfl
  have c1 : Try.prog.cellsOf 3 = 1 := by kernel_rfl
  obtain ⟨xs, m, _, _, hlen, hxs, hg⟩ := DataW.trod_struct Try.underlying23 h
  rw [c] at hlen
  obtain ⟨v0, v1, v2, rfl⟩ := list3 hlen
  have hx3 : xs.length = 3 := hxs
  have g0 := hg 0 _ rfl
  have g1 := hg 1 _ rfl
  have g2 := hg 2 _ rfl
  have g0 : DataW.trod enc Try.prog W 0 sp true m 3 [v0] = xs[0]? := by
    have e := g0
    simp only [List.getElem_toArray, List.getElem_cons_zero, c1, List.drop_zero, List.take_succ_cons, List.take_zero] at e
    exact e
  have g1 : DataW.trod enc Try.prog W 0 sp true m 3 [v1] = xs[1]? := by
    have e := g1
    simp only [List.getElem_toArray, List.getElem_cons_zero, List.getElem_cons_succ, c1, List.drop_zero, List.drop_succ_cons, List.take_succ_cons, List.take_zero] at e
    exact e
  have g2 : DataW.trod enc Try.prog W 0 sp true m 3 [v2] = xs[2]? := by
    have e := g2
    simp only [List.getElem_toArray, List.getElem_cons_zero, List.getElem_cons_succ, c1, List.drop_zero, List.drop_succ_cons, List.take_succ_cons, List.take_zero] at e
    exact e
  rw [List.getElem?_eq_getElem (by omega)] at g0 g1 g2
  obtain ⟨n0, e0, _, w0⟩ := DataW.trod_int Try.underlying3 g0
  obtain ⟨n1, e1, _, w1⟩ := DataW.trod_int Try.underlying3 g1
  obtain ⟨n2, e2, _, w2⟩ := DataW.trod_int Try.underlying3 g2
  injection e0 with e0
  injection e1 with e1
  injection e2 with e2
  exact ⟨(n0, n1, n2), by rw [e0, e1, e2]; rfl, fits_wf' w0, fits_wf' w1, fits_wf' w2⟩
set_option maxRecDepth 100000 in
/-- An argument of three points. -/
theorem open_three {H : Type} {enc : TypeId × Value → H} {W : World} {sp : Nat → Bool} {r : Reach} {b0 : Nat} {v : Value} {d : DataW H} {ps : List MemPlace} (hv : Value.okWide Try.prog W r b0 24 v) (h : DataW.Trod enc Try.prog W 0 sp true 24 v d ps) : ∃ t : Tri, v = vT t ∧ fitsT t := by
  have c : Try.prog.cellsOf 23 = 3 := by kernel_rfl
  have c9 : Try.prog.cellsOf 24 = 9 := by kernel_rfl
  simp only [Value.okWide, Try.underlying24] at hv
  obtain ⟨cs, rfl, hsz, _⟩ := hv
  rw [c9] at hsz
  obtain ⟨fuel, hf⟩ := h
  obtain ⟨xs, m, _, _, _, hxs, hg⟩ := DataW.trod_array Try.underlying24 hf
  have g0 := hg 0 (by omega)
  have g1 := hg 1 (by omega)
  have g2 := hg 2 (by omega)
  obtain ⟨l, rfl⟩ : ∃ l : List Value, cs = l.toArray := ⟨cs.toList, by simp⟩
  have hl : l.length = 9 := by simpa using hsz
  obtain ⟨a0, a1, a2, a3, a4, a5, a6, a7, a8, rfl⟩ := list9 hl
  simp only [Value.cells, c, Nat.zero_mul, Nat.one_mul, Nat.reduceMul, List.drop_zero, List.drop_succ_cons, List.take_succ_cons, List.take_zero] at g0 g1 g2
  rw [List.getElem?_eq_getElem (by omega)] at g0 g1 g2
  obtain ⟨p0, e0, w0⟩ := open_point g0
  obtain ⟨p1, e1, w1⟩ := open_point g1
  obtain ⟨p2, e2, w2⟩ := open_point g2
  simp only [encP, List.cons.injEq, and_true] at e0 e1 e2
  refine ⟨(p0, p1, p2), ?_, w0, w1, w2⟩
  rw [e0.1, e0.2.1, e0.2.2, e1.1, e1.2.1, e1.2.2, e2.1, e2.2.1, e2.2.2]
end Go.Proofs.Ytgndbpkgehjelaa
