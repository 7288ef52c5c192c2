/- An argument that is a Shape: a bool, a number of 32 bits, a slice of numbers, six numbers. -/
import Derived.Test.YtelfnmohpjkilaaGreatDoorCTri
import Derived.Test.YtelfnmohpjkilaaGreatDoorCArgs4
namespace Go.Proofs.YtelfnmohpjkilaaGreatDoor
open Go.ChangeShapes Go.WideShapes Go.ChangeAt Go.RowKit Go.Deep
theorem plain_of_cell5 {W : World} {a : Addr} {u : Value} (h : W.cell? (a.add 0) = some u) : ∃ b o, a = ⟨b, o, none⟩ := by
  obtain ⟨b, o, s⟩ := a
  have hs := World.cell?_spot h
  have : s = none := by simpa [Addr.add] using hs
  exact ⟨b, o, by rw [this]⟩
set_option maxRecDepth 100000 in
/-- An argument that is a slice of cells in rows of k: what it reads as. -/
theorem open_rows5 {H : Type} {enc : TypeId × Value → H} {W : World} {v : Value} {α : Type} {en : α → List Value} {k : Nat} {T E : TypeId} {good : α → Prop} (hT : Tryz.prog.underlying T = some (.slice E)) (hk : Tryz.prog.cellsOf E = k) (hk0 : 0 < k)
    (hen : ∀ x, (en x).length = k) (hel : ∀ (n : Nat) (cs : List Value) (x : DataW H × List MemPlace), DataW.trod enc Tryz.prog W 0 (fun _ => true) true n E cs = some x → cs.length = k → ∃ t : α, cs = en t ∧ good t)
    {fuel : Nat} {y : DataW H × List MemPlace} (hf : DataW.trod enc Tryz.prog W 0 (fun _ => true) true fuel T [v] = some y) :
    ∃ A c xs, v = .slice A xs.length c ∧ (xs ≠ [] → Sl en k W W.heap.size A xs) ∧ (∀ x ∈ xs, good x) ∧ xs.length ≤ c ∧ xs.length ≤ 9223372036854775807 := by
  rcases open_slice hT hf with ⟨hcs, _⟩ | ⟨a, len', cap', m, n, D, Pl, hcs, _, hl, hm, hmm, _, hx⟩
  · simp only [List.cons.injEq, and_true] at hcs
    subst hcs
    exact ⟨none, 0, [], rfl, fun h => absurd rfl h, by simp, by simp, by simp⟩
  · simp only [List.cons.injEq, and_true] at hcs
    subst hcs
    obtain ⟨len, rfl⟩ : ∃ l, l = len' := ⟨_, rfl⟩
    simp only [if_true] at hmm
    subst hmm
    have key : ∀ i, i < len → ∃ t : α, good t ∧ ∀ j u, (en t)[j]? = some u → W.cell? (a.add (i * k + j)) = some u := fun i hi => by
      obtain ⟨cs', h1, h2⟩ := hx i (by omega)
      rw [hk] at h1
      obtain ⟨_, hlen, hcell⟩ := World.cells?_some h1
      obtain ⟨t, rfl, hg⟩ := hel n cs' _ h2 hlen
      refine ⟨t, hg, fun j u hu => ?_⟩
      have hj : j < k := by rw [← hen t]; exact (List.getElem?_eq_some_iff.1 hu).1
      have := hcell j hj
      rw [add_add] at this
      rw [this, hu]
    have hchoose : ∃ xs : List α, xs.length = len ∧ ∀ i x, xs[i]? = some x → good x ∧ ∀ j u, (en x)[j]? = some u → W.cell? (a.add (i * k + j)) = some u := by
      clear hx
      have : ∀ l, l ≤ len → ∃ xs : List α, xs.length = l ∧ ∀ i x, xs[i]? = some x → good x ∧ ∀ j u, (en x)[j]? = some u → W.cell? (a.add (i * k + j)) = some u := by
        intro l
        induction l with
        | zero => exact fun _ => ⟨[], rfl, by simp⟩
        | succ l ih =>
          intro hle
          obtain ⟨xs, h1, h2⟩ := ih (by omega)
          obtain ⟨t, hg, ht⟩ := key l (by omega)
          refine ⟨xs ++ [t], by simp [h1], fun i x hi => ?_⟩
          rcases Nat.lt_or_ge i l with hlt | hge
          · rw [List.getElem?_append_left (by omega)] at hi
            exact h2 i x hi
          · rw [List.getElem?_append_right (by omega)] at hi
            have h0 := (List.getElem?_eq_some_iff.1 hi).1
            simp at h0
            have hil : i = l := by omega
            subst hil
            simp [h1] at hi
            subst hi
            exact ⟨hg, ht⟩
      exact this len (Nat.le_refl _)
    obtain ⟨xs, hxl, hxs⟩ := hchoose
    subst hxl
    unfold maxLen at hm
    refine ⟨some a, _, xs, rfl, fun hne => ?_, fun x hx => ?_, hl, by omega⟩
    · obtain ⟨x0, hx0⟩ : ∃ x, xs[0]? = some x := ⟨_, List.getElem?_eq_getElem (List.length_pos_iff.2 hne)⟩
      have hu : (en x0)[0]? = some ((en x0)[0]'(by rw [hen]; exact hk0)) := List.getElem?_eq_getElem _
      have hc0 := (hxs 0 x0 hx0).2 0 _ hu
      rw [Nat.zero_mul, Nat.add_zero] at hc0
      obtain ⟨b, o, rfl⟩ := plain_of_cell5 hc0
      refine .inr ⟨b, o, rfl, ?_, fun i x hi j u hj => ?_⟩
      · have := World.block_lt_of_cell? W _ hc0
        rw [add_none] at this
        exact this
      · have := (hxs i x hi).2 j u hj
        rw [add_none, ← Nat.add_assoc] at this
        exact this
    · obtain ⟨i, hi⟩ := List.mem_iff_getElem?.1 hx
      exact (hxs i x hi).1
set_option maxRecDepth 100000 in
theorem open_numC {H : Type} {enc : TypeId × Value → H} {W : World} {sp : Nat → Bool} {n : Nat} {cs : List Value} {x : DataW H × List MemPlace} (h : DataW.trod enc Tryz.prog W 0 sp true n 3 cs = some x) (hl : cs.length = 1) : ∃ t : Int, cs = encZ4 t ∧ fits t := by
  match cs, hl with
  | [a], _ =>
    obtain ⟨n, e, _, w⟩ := DataW.trod_int Tryz.underlying3 h
    injection e with e
    exact ⟨n, by rw [e]; rfl, fits_wf40 w⟩
theorem list9d : ∀ {l : List Value}, l.length = 9 → ∃ a0 a1 a2 a3 a4 a5 a6 a7 a8, l = [a0, a1, a2, a3, a4, a5, a6, a7, a8]
  | [a0, a1, a2, a3, a4, a5, a6, a7, a8], _ => ⟨a0, a1, a2, a3, a4, a5, a6, a7, a8, rfl⟩
set_option maxRecDepth 100000 in
theorem open_shape4 {H : Type} {enc : TypeId × Value → H} {W : World} {r : Reach} {bb : Nat} {v : Value} {d : DataW H} {ps : List MemPlace} (hv : Value.okWide Tryz.prog W r bb 26 v) (h : DataW.Trod enc Tryz.prog W 0 (fun _ => true) true 26 v d ps) :
    ∃ (op : Bool) (b0 : Nat) (A : Option Addr) (c : Nat) (ns : List Int) (s0 s1 s2 s3 s4 s5 : Int), v = .agg (vSh op b0 A ns.length c s0 s1 s2 s3 s4 s5) ∧ b0 < 4294967296 ∧ (ns ≠ [] → Sl encZ4 1 W W.heap.size A ns) ∧ (∀ n ∈ ns, fits n) ∧ ns.length ≤ c ∧ ns.length ≤ 9223372036854775807 := by
  have c9 : Tryz.prog.cellsOf 26 = 9 := by kernel_rfl
  have cb : Tryz.prog.cellsOf 4 = 1 := by kernel_rfl
  have cu : Tryz.prog.cellsOf 22 = 1 := by kernel_rfl
  have cl : Tryz.prog.cellsOf 23 = 1 := by kernel_rfl
  have c6 : Tryz.prog.cellsOf 24 = 6 := by kernel_rfl
  have c1 : Tryz.prog.cellsOf 3 = 1 := by kernel_rfl
  simp only [Value.okWide, Tryz.underlying26] at hv
  obtain ⟨cs, rfl, hsz, _⟩ := hv
  rw [c9] at hsz
  obtain ⟨fuel, hf⟩ := h
  obtain ⟨xs, m, _, _, hlen, hxs, hg⟩ := DataW.trod_struct Tryz.underlying26 hf
  obtain ⟨l, rfl⟩ : ∃ l : List Value, cs = l.toArray := ⟨cs.toList, by simp⟩
  have hl : l.length = 9 := by simpa using hsz
  obtain ⟨a0, a1, a2, a3, a4, a5, a6, a7, a8, rfl⟩ := list9d hl
  have hx4 : xs.length = 4 := hxs
  have g0 := hg 0 _ rfl
  have g1 := hg 1 _ rfl
  have g2 := hg 2 _ rfl
  have g3 := hg 3 _ rfl
  have g0 : DataW.trod enc Tryz.prog W 0 (fun _ => true) true m 4 [a0] = xs[0]? := by
    have e := g0
    simp only [Value.cells, List.getElem_toArray, List.getElem_cons_zero, cb, List.drop_zero, List.take_succ_cons, List.take_zero] at e
    exact e
  have g1 : DataW.trod enc Tryz.prog W 0 (fun _ => true) true m 22 [a1] = xs[1]? := by
    have e := g1
    simp only [Value.cells, List.getElem_toArray, List.getElem_cons_zero, List.getElem_cons_succ, cu, List.drop_zero, List.drop_succ_cons, List.take_succ_cons, List.take_zero] at e
    exact e
  have g2 : DataW.trod enc Tryz.prog W 0 (fun _ => true) true m 23 [a2] = xs[2]? := by
    have e := g2
    simp only [Value.cells, List.getElem_toArray, List.getElem_cons_zero, List.getElem_cons_succ, cl, List.drop_zero, List.drop_succ_cons, List.take_succ_cons, List.take_zero] at e
    exact e
  have g3 : DataW.trod enc Tryz.prog W 0 (fun _ => true) true m 24 [a3, a4, a5, a6, a7, a8] = xs[3]? := by
    have e := g3
    simp only [Value.cells, List.getElem_toArray, List.getElem_cons_zero, List.getElem_cons_succ, c6, List.drop_zero, List.drop_succ_cons, List.take_succ_cons, List.take_zero] at e
    exact e
  rw [List.getElem?_eq_getElem (by omega)] at g0 g1 g2 g3
  obtain ⟨op, e0, _⟩ := DataW.trod_bool Tryz.underlying4 g0
  obtain ⟨bn, e1, _, w1⟩ := DataW.trod_int Tryz.underlying22 g1
  obtain ⟨A, c, ns, e2, hsl, hfit, hnc, hnm⟩ := open_rows5 (good := fits) Tryz.underlying23 c1 (by omega) encZ4_len (fun _ _ _ h hl => open_numC h hl) g2
  obtain ⟨ys, m2, _, _, _, hys, hh⟩ := DataW.trod_array Tryz.underlying24 g3
  have k0 := hh 0 (by omega)
  have k1 := hh 1 (by omega)
  have k2 := hh 2 (by omega)
  have k3 := hh 3 (by omega)
  have k4 := hh 4 (by omega)
  have k5 := hh 5 (by omega)
  simp only [c1, Nat.mul_one, List.drop_zero, List.drop_succ_cons, List.take_succ_cons, List.take_zero] at k0 k1 k2 k3 k4 k5
  rw [List.getElem?_eq_getElem (by omega)] at k0 k1 k2 k3 k4 k5
  obtain ⟨s0, f0, _, _⟩ := DataW.trod_int Tryz.underlying3 k0
  obtain ⟨s1, f1, _, _⟩ := DataW.trod_int Tryz.underlying3 k1
  obtain ⟨s2, f2, _, _⟩ := DataW.trod_int Tryz.underlying3 k2
  obtain ⟨s3, f3, _, _⟩ := DataW.trod_int Tryz.underlying3 k3
  obtain ⟨s4, f4, _, _⟩ := DataW.trod_int Tryz.underlying3 k4
  obtain ⟨s5, f5, _, _⟩ := DataW.trod_int Tryz.underlying3 k5
  simp only [List.cons.injEq, and_true] at e0 e1 f0 f1 f2 f3 f4 f5
  simp [Lit.wf, IntKind.min, IntKind.max, IntKind.signed, IntKind.bits] at w1
  obtain ⟨bz, rfl⟩ : ∃ z : Nat, bn = (z : Int) := ⟨bn.toNat, by omega⟩
  refine ⟨op, bz, A, c, ns, s0, s1, s2, s3, s4, s5, ?_, by omega, hsl, hfit, hnc, hnm⟩
  rw [e0, e1, e2, f0, f1, f2, f3, f4, f5]
end Go.Proofs.YtelfnmohpjkilaaGreatDoor
