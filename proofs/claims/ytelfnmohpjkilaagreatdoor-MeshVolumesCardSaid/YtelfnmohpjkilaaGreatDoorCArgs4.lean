/- Layer 4's arguments: points, numbers of 32 bits. -/
import Derived.Deep.Slices
import Derived.Test.YtelfnmohpjkilaaGreatDoorCB9
import Derived.Test.YtelfnmohpjkilaaGreatDoorCFin
namespace Go.Proofs.YtelfnmohpjkilaaGreatDoor
open Go.ChangeShapes Go.WideShapes Go.ChangeAt Go.RowKit Go.Deep
theorem fits_wf40 {n : Int} (h : (Lit.int .i64 n).wf = true) : fits n := by
  simp [Lit.wf, IntKind.min, IntKind.max, IntKind.signed, IntKind.bits] at h
  unfold fits; omega
theorem list3c : ∀ {l : List Value}, l.length = 3 → ∃ v0 v1 v2, l = [v0, v1, v2]
  | [v0, v1, v2], _ => ⟨v0, v1, v2, rfl⟩
set_option maxRecDepth 100000 in
/-- Three cells that read as a point. -/
theorem open_point4 {H : Type} {enc : TypeId × Value → H} {W : World} {sp : Nat → Bool} {n : Nat} {cs : List Value} {x : DataW H × List MemPlace} (h : DataW.trod enc Tryz.prog W 0 sp true n 41 cs = some x) : ∃ p : Pt, cs = encP p ∧ fitsP p := by
  have c : Tryz.prog.cellsOf 41 = 3 := by kernel_rfl
  have c1 : Tryz.prog.cellsOf 3 = 1 := by kernel_rfl
  obtain ⟨xs, m, _, _, hlen, hxs, hg⟩ := DataW.trod_struct Tryz.underlying41 h
  rw [c] at hlen
  obtain ⟨v0, v1, v2, rfl⟩ := list3c hlen
  have hx3 : xs.length = 3 := hxs
  have g0 := hg 0 _ rfl
  have g1 := hg 1 _ rfl
  have g2 := hg 2 _ rfl
  have g0 : DataW.trod enc Tryz.prog W 0 sp true m 3 [v0] = xs[0]? := by
    have e := g0
    simp only [List.getElem_toArray, List.getElem_cons_zero, c1, List.drop_zero, List.take_succ_cons, List.take_zero] at e
    exact e
  have g1 : DataW.trod enc Tryz.prog W 0 sp true m 3 [v1] = xs[1]? := by
    have e := g1
    simp only [List.getElem_toArray, List.getElem_cons_zero, List.getElem_cons_succ, c1, List.drop_zero, List.drop_succ_cons, List.take_succ_cons, List.take_zero] at e
    exact e
  have g2 : DataW.trod enc Tryz.prog W 0 sp true m 3 [v2] = xs[2]? := by
    have e := g2
    simp only [List.getElem_toArray, List.getElem_cons_zero, List.getElem_cons_succ, c1, List.drop_zero, List.drop_succ_cons, List.take_succ_cons, List.take_zero] at e
    exact e
  rw [List.getElem?_eq_getElem (by omega)] at g0 g1 g2
  obtain ⟨n0, e0, _, w0⟩ := DataW.trod_int Tryz.underlying3 g0
  obtain ⟨n1, e1, _, w1⟩ := DataW.trod_int Tryz.underlying3 g1
  obtain ⟨n2, e2, _, w2⟩ := DataW.trod_int Tryz.underlying3 g2
  injection e0 with e0
  injection e1 with e1
  injection e2 with e2
  exact ⟨(n0, n1, n2), by rw [e0, e1, e2]; rfl, fits_wf40 w0, fits_wf40 w1, fits_wf40 w2⟩
set_option maxRecDepth 100000 in
/-- An argument that is a point. -/
theorem open_pt4 {H : Type} {enc : TypeId × Value → H} {W : World} {sp : Nat → Bool} {r : Reach} {b0 : Nat} {v : Value} {d : DataW H} {ps : List MemPlace} (hv : Value.okWide Tryz.prog W r b0 41 v) (h : DataW.Trod enc Tryz.prog W 0 sp true 41 v d ps) : ∃ p : Pt, v = vP p ∧ fitsP p := by
  simp only [Value.okWide, Tryz.underlying41] at hv
  obtain ⟨cs, rfl, _, _⟩ := hv
  obtain ⟨fuel, hf⟩ := h
  obtain ⟨p, hp, hfp⟩ := open_point4 hf
  refine ⟨p, ?_, hfp⟩
  have : cs = (encP p).toArray := by
    have h : cs.toList = encP p := hp
    rw [← h]
  rw [this]; rfl
set_option maxRecDepth 100000 in
theorem open_u32_4 {H : Type} {enc : TypeId × Value → H} {W : World} {r : Reach} {b0 : Nat} {v : Value} {d : DataW H} {ps : List MemPlace} (hv : Value.okWide Tryz.prog W r b0 22 v) (h : DataW.Trod enc Tryz.prog W 0 (fun _ => true) true 22 v d ps) : ∃ n : Nat, v = .int .u32 n ∧ n < 4294967296 := by
  obtain ⟨x, rfl, _, _, w⟩ := open_int Tryz.underlying22 hv h
  simp [Lit.wf, IntKind.min, IntKind.max, IntKind.signed, IntKind.bits] at w
  exact ⟨x.toNat, by rw [Int.toNat_of_nonneg (by omega)], by omega⟩
end Go.Proofs.YtelfnmohpjkilaaGreatDoor
