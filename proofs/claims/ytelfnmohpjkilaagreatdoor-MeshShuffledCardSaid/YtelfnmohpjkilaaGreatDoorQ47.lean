/- Args4C. -/
import Derived.WalkKit
import Derived.WalkSpells
import Derived.WalkLawsBesides
import Derived.Laws.OwnMore
import Derived.Deep.AppendLies
import Derived.Deep.Draws
import Derived.Maps.AppendAt
import Derived.OwnWalk
import Derived.Sort.Grow
import Derived.Shelf.GgSortFunc.RowK
import Derived.RangeFuncNested
import Derived.RangeFuncBox
import Derived.OrdersHeld
import Derived.OrdersIn
import Derived.RangeFuncCalls
import Derived.OwnWalkIn
import Derived.Test.YtelfnmohpjkilaaGreatDoorRows
import Derived.Carry
import Derived.OpenShut
import Derived.ProofKit
import Derived.ChangeSame
import Derived.Handy
import Derived.Deep.Slices
import Derived.Test.YtelfnmohpjkilaaGreatDoorProg
import Derived.Deep.QuietTactic
import Derived.BigQuiet
import Derived.LoopN
import Derived.Laws.EntriesVeiled
import Derived.Shelf.SlSortCmp.QuietGrown
import Derived.Deep.RegionHeld3
import Derived.Deep.DrawnRows
import Derived.Sort.Statements
import Derived.Shelf.SlSortCmp.NoneTotal
import Derived.Maps.Own
import Derived.Maps.Views
import Derived.DeepKeys4
import Derived.DeepKeys
import Derived.Laws.StructEq
import Derived.Deep.CutBlock
import Derived.Deep.DeepCutAuto
import Derived.StillTailTactics
import Derived.IntWalk
import Derived.Deep.WholeRow
import Derived.Great.BuildSlice
import Derived.Great.Walk
import Derived.Test.YtelfnmohpjkilaaGreatDoorQ34
import Derived.Test.YtelfnmohpjkilaaGreatDoorQ46
namespace Go.Proofs.YtelfnmohpjkilaaGreatDoor
open Go.ChangeShapes Go.WideShapes Go.ChangeAt Go.RowKit Go.Deep
set_option maxRecDepth 100000 in
theorem open_numC {H : Type} {enc : TypeId × Value → H} {W : World} {sp : Nat → Bool} {n : Nat} {cs : List Value} {x : DataW H × List MemPlace} (h : DataW.trod enc Tryz.prog W 0 sp true n 3 cs = some x) (hl : cs.length = 1) : ∃ t : Int, cs = encZ4 t ∧ fits t := by
  match cs, hl with
  | [a], _ =>
    obtain ⟨n, e, _, w⟩ := DataW.trod_int Tryz.underlying3 h
    injection e with e
    exact ⟨n, by rw [e]; rfl, fits_wf40 w⟩
theorem list9d : ∀ {l : List Value}, l.length = 9 → ∃ a0 a1 a2 a3 a4 a5 a6 a7 a8, l = [a0, a1, a2, a3, a4, a5, a6, a7, a8]
  | [a0, a1, a2, a3, a4, a5, a6, a7, a8], _ => ⟨a0, a1, a2, a3, a4, a5, a6, a7, a8, rfl⟩
set_option maxRecDepth 100000 in
theorem open_shape4 {H : Type} {enc : TypeId × Value → H} {W : World} {r : Reach} {bb : Nat} {v : Value} {d : DataW H} {ps : List MemPlace} (hv : Value.okWide Tryz.prog W r bb 26 v) (h : DataW.Trod enc Tryz.prog W 0 (fun _ => true) true 26 v d ps) :
    ∃ (op : Bool) (b0 : Nat) (A : Option Addr) (c : Nat) (ns : List Int) (s0 s1 s2 s3 s4 s5 : Int), v = .agg (vSh op b0 A ns.length c s0 s1 s2 s3 s4 s5) ∧ b0 < 4294967296 ∧ (ns ≠ [] → Sl encZ4 1 W W.heap.size A ns) ∧ (∀ n ∈ ns, fits n) ∧ ns.length ≤ c ∧ ns.length ≤ 9223372036854775807 := by
  have c9 : Tryz.prog.cellsOf 26 = 9 := by kernel_rfl
  have cb : Tryz.prog.cellsOf 4 = 1 := by kernel_rfl
  have cu : Tryz.prog.cellsOf 22 = 1 := by kernel_rfl
  have cl : Tryz.prog.cellsOf 23 = 1 := by kernel_rfl
  have c6 : Tryz.prog.cellsOf 24 = 6 := by kernel_rfl
  have c1 : Tryz.prog.cellsOf 3 = 1 := by kernel_rfl
  simp only [Value.okWide, Tryz.underlying26] at hv
  obtain ⟨cs, rfl, hsz, _⟩ := hv
  rw [c9] at hsz
  obtain ⟨fuel, hf⟩ := h
  obtain ⟨xs, m, _, _, hlen, hxs, hg⟩ := DataW.trod_struct Tryz.underlying26 hf
  obtain ⟨l, rfl⟩ : ∃ l : List Value, cs = l.toArray := ⟨cs.toList, by simp⟩
  have hl : l.length = 9 := by simpa using hsz
  obtain ⟨a0, a1, a2, a3, a4, a5, a6, a7, a8, rfl⟩ := list9d hl
  have hx4 : xs.length = 4 := hxs
  have g0 := hg 0 _ rfl
  have g1 := hg 1 _ rfl
  have g2 := hg 2 _ rfl
  have g3 := hg 3 _ rfl
  have g0 : DataW.trod enc Tryz.prog W 0 (fun _ => true) true m 4 [a0] = xs[0]? := by
    have e := g0
    simp only [Value.cells, List.getElem_toArray, List.getElem_cons_zero, cb, List.drop_zero, List.take_succ_cons, List.take_zero] at e
    exact e
  have g1 : DataW.trod enc Tryz.prog W 0 (fun _ => true) true m 22 [a1] = xs[1]? := by
    have e := g1
    simp only [Value.cells, List.getElem_toArray, List.getElem_cons_zero, List.getElem_cons_succ, cu, List.drop_zero, List.drop_succ_cons, List.take_succ_cons, List.take_zero] at e
    exact e
  have g2 : DataW.trod enc Tryz.prog W 0 (fun _ => true) true m 23 [a2] = xs[2]? := by
    have e := g2
    simp only [Value.cells, List.getElem_toArray, List.getElem_cons_zero, List.getElem_cons_succ, cl, List.drop_zero, List.drop_succ_cons, List.take_succ_cons, List.take_zero] at e
    exact e
  have g3 : DataW.trod enc Tryz.prog W 0 (fun _ => true) true m 24 [a3, a4, a5, a6, a7, a8] = xs[3]? := by
    have e := g3
    simp only [Value.cells, List.getElem_toArray, List.getElem_cons_zero, List.getElem_cons_succ, c6, List.drop_zero, List.drop_succ_cons, List.take_succ_cons, List.take_zero] at e
    exact e
  rw [List.getElem?_eq_getElem (by omega)] at g0 g1 g2 g3
  obtain ⟨op, e0, _⟩ := DataW.trod_bool Tryz.underlying4 g0
  obtain ⟨bn, e1, _, w1⟩ := DataW.trod_int Tryz.underlying22 g1
  obtain ⟨A, c, ns, e2, hsl, hfit, hnc, hnm⟩ := open_rows5 (good := fits) Tryz.underlying23 c1 (by omega) encZ4_len (fun _ _ _ h hl => open_numC h hl) g2
  obtain ⟨ys, m2, _, _, _, hys, hh⟩ := DataW.trod_array Tryz.underlying24 g3
  have k0 := hh 0 (by omega)
  have k1 := hh 1 (by omega)
  have k2 := hh 2 (by omega)
  have k3 := hh 3 (by omega)
  have k4 := hh 4 (by omega)
  have k5 := hh 5 (by omega)
  simp only [c1, Nat.mul_one, List.drop_zero, List.drop_succ_cons, List.take_succ_cons, List.take_zero] at k0 k1 k2 k3 k4 k5
  rw [List.getElem?_eq_getElem (by omega)] at k0 k1 k2 k3 k4 k5
  obtain ⟨s0, f0, _, _⟩ := DataW.trod_int Tryz.underlying3 k0
  obtain ⟨s1, f1, _, _⟩ := DataW.trod_int Tryz.underlying3 k1
  obtain ⟨s2, f2, _, _⟩ := DataW.trod_int Tryz.underlying3 k2
  obtain ⟨s3, f3, _, _⟩ := DataW.trod_int Tryz.underlying3 k3
  obtain ⟨s4, f4, _, _⟩ := DataW.trod_int Tryz.underlying3 k4
  obtain ⟨s5, f5, _, _⟩ := DataW.trod_int Tryz.underlying3 k5
  simp only [List.cons.injEq, and_true] at e0 e1 f0 f1 f2 f3 f4 f5
  simp [Lit.wf, IntKind.min, IntKind.max, IntKind.signed, IntKind.bits] at w1
  obtain ⟨bz, rfl⟩ : ∃ z : Nat, bn = (z : Int) := ⟨bn.toNat, by omega⟩
  refine ⟨op, bz, A, c, ns, s0, s1, s2, s3, s4, s5, ?_, by omega, hsl, hfit, hnc, hnm⟩
  rw [e0, e1, e2, f0, f1, f2, f3, f4, f5]
end Go.Proofs.YtelfnmohpjkilaaGreatDoor
