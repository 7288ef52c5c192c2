/- Arguments that are three numbers, and slices of three numbers. -/
import Derived.Test.YtelfnmohpjkilaaGreatDoorCB22
import Derived.Test.YtelfnmohpjkilaaGreatDoorCArgs4C
namespace Go.Proofs.YtelfnmohpjkilaaGreatDoor
open Go.ChangeShapes Go.WideShapes Go.ChangeAt Go.RowKit Go.Deep
set_option maxRecDepth 100000 in
theorem open_row3 {H : Type} {enc : TypeId × Value → H} {W : World} {sp : Nat → Bool} {n : Nat} {cs : List Value} {x : DataW H × List MemPlace} (h : DataW.trod enc Tryz.prog W 0 sp true n 49 cs = some x) (hl : cs.length = 3) : ∃ t : Pt, cs = encR3 t ∧ fitsP t := by
  have c1 : Tryz.prog.cellsOf 3 = 1 := by kernel_rfl
  obtain ⟨a0, a1, a2, rfl⟩ := list3c hl
  obtain ⟨ys, m2, _, _, _, hys, hh⟩ := DataW.trod_array Tryz.underlying49 h
  have k0 := hh 0 (by omega)
  have k1 := hh 1 (by omega)
  have k2 := hh 2 (by omega)
  simp only [c1, Nat.mul_one, List.drop_zero, List.drop_succ_cons, List.take_succ_cons, List.take_zero] at k0 k1 k2
  rw [List.getElem?_eq_getElem (by omega)] at k0 k1 k2
  obtain ⟨s0, f0, _, w0⟩ := DataW.trod_int Tryz.underlying3 k0
  obtain ⟨s1, f1, _, w1⟩ := DataW.trod_int Tryz.underlying3 k1
  obtain ⟨s2, f2, _, w2⟩ := DataW.trod_int Tryz.underlying3 k2
  simp only [List.cons.injEq, and_true] at f0 f1 f2
  exact ⟨(s0, s1, s2), by rw [f0, f1, f2]; rfl, fits_wf40 w0, fits_wf40 w1, fits_wf40 w2⟩
set_option maxRecDepth 100000 in
theorem open_raw4 {H : Type} {enc : TypeId × Value → H} {W : World} {r : Reach} {b0 : Nat} {v : Value} {d : DataW H} {ps : List MemPlace} (hv : Value.okWide Tryz.prog W r b0 39 v) (h : DataW.Trod enc Tryz.prog W 0 (fun _ => true) true 39 v d ps) :
    ∃ A c rs, v = .slice A rs.length c ∧ (rs ≠ [] → Sl encR3 3 W W.heap.size A rs) ∧ (∀ t ∈ rs, fitsP t) ∧ rs.length ≤ c ∧ rs.length ≤ 9223372036854775807 := by
  obtain ⟨a0, len, cap, rfl⟩ := okWide_slice Tryz.underlying39 hv
  obtain ⟨fuel, hf⟩ := h
  exact open_rows5 (good := fitsP) Tryz.underlying39 (E := 49) (k := 3) (by kernel_rfl) (by omega) encR3_len (fun _ _ _ h hl => open_row3 h hl) hf
set_option maxRecDepth 100000 in
theorem open_t34 {H : Type} {enc : TypeId × Value → H} {W : World} {r : Reach} {b0 : Nat} {v : Value} {d : DataW H} {ps : List MemPlace} (hv : Value.okWide Tryz.prog W r b0 49 v) (h : DataW.Trod enc Tryz.prog W 0 (fun _ => true) true 49 v d ps) :
    ∃ q0 q1 q2 : Int, v = .agg #[.int .i64 q0, .int .i64 q1, .int .i64 q2] := by
  have c3 : Tryz.prog.cellsOf 49 = 3 := by kernel_rfl
  simp only [Value.okWide, Tryz.underlying49] at hv
  obtain ⟨cs, rfl, hsz, _⟩ := hv
  rw [c3] at hsz
  obtain ⟨fuel, hf⟩ := h
  obtain ⟨l, rfl⟩ : ∃ l : List Value, cs = l.toArray := ⟨cs.toList, by simp⟩
  obtain ⟨t, ht, _⟩ := open_row3 hf (by simpa [Value.cells] using hsz)
  have ht : l = encR3 t := ht
  exact ⟨t.1, t.2.1, t.2.2, by rw [ht]; rfl⟩
end Go.Proofs.YtelfnmohpjkilaaGreatDoor
