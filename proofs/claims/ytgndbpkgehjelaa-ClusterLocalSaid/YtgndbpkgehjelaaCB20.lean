/- Joined texts: Args. -/
import Derived.Deep.Slices
import Derived.Test.YtgndbpkgehjelaaCB16
import Derived.Test.YtgndbpkgehjelaaCB17
/- Arguments: slices of nine numbers, slices of bytes. -/
namespace Go.Proofs.Ytgndbpkgehjelaa
open Go.ChangeShapes Go.WideShapes Go.ChangeAt Go.RowKit Go.Deep
set_option maxRecDepth 100000 in
/-- Nine cells that read as nine numbers. -/
theorem open_nine {H : Type} {enc : TypeId × Value → H} {W : World} {sp : Nat → Bool} {n : Nat} {cs : List Value} {x : DataW H × List MemPlace} (h : DataW.trod enc Try.prog W 0 sp true n 61 cs = some x) (hl : cs.length = 9) : ∃ t : Tri, cs = encT t ∧ fitsT t := by
  have c1 : Try.prog.cellsOf 3 = 1 := by kernel_rfl
  obtain ⟨xs, m, _, _, _, hxs, hg⟩ := DataW.trod_array Try.underlying61 h
  obtain ⟨a0, a1, a2, a3, a4, a5, a6, a7, a8, rfl⟩ := list9 hl
  have g0 := hg 0 (by omega)
  have g1 := hg 1 (by omega)
  have g2 := hg 2 (by omega)
  have g3 := hg 3 (by omega)
  have g4 := hg 4 (by omega)
  have g5 := hg 5 (by omega)
  have g6 := hg 6 (by omega)
  have g7 := hg 7 (by omega)
  have g8 := hg 8 (by omega)
  simp only [c1, Nat.mul_one, List.drop_zero, List.drop_succ_cons, List.take_succ_cons, List.take_zero] at g0 g1 g2 g3 g4 g5 g6 g7 g8
  rw [List.getElem?_eq_getElem (by omega)] at g0 g1 g2 g3 g4 g5 g6 g7 g8
  obtain ⟨n0, e0, _, w0⟩ := DataW.trod_int Try.underlying3 g0
  obtain ⟨n1, e1, _, w1⟩ := DataW.trod_int Try.underlying3 g1
  obtain ⟨n2, e2, _, w2⟩ := DataW.trod_int Try.underlying3 g2
  obtain ⟨n3, e3, _, w3⟩ := DataW.trod_int Try.underlying3 g3
  obtain ⟨n4, e4, _, w4⟩ := DataW.trod_int Try.underlying3 g4
  obtain ⟨n5, e5, _, w5⟩ := DataW.trod_int Try.underlying3 g5
  obtain ⟨n6, e6, _, w6⟩ := DataW.trod_int Try.underlying3 g6
  obtain ⟨n7, e7, _, w7⟩ := DataW.trod_int Try.underlying3 g7
  obtain ⟨n8, e8, _, w8⟩ := DataW.trod_int Try.underlying3 g8
  injection e0 with e0
  injection e1 with e1
  injection e2 with e2
  injection e3 with e3
  injection e4 with e4
  injection e5 with e5
  injection e6 with e6
  injection e7 with e7
  injection e8 with e8
  exact ⟨((n0, n1, n2), (n3, n4, n5), n6, n7, n8), by rw [e0, e1, e2, e3, e4, e5, e6, e7, e8]; rfl, ⟨fits_wf' w0, fits_wf' w1, fits_wf' w2⟩, ⟨fits_wf' w3, fits_wf' w4, fits_wf' w5⟩, fits_wf' w6, fits_wf' w7, fits_wf' w8⟩
theorem plain_of_cell {W : World} {a : Addr} {u : Value} (h : W.cell? (a.add 0) = some u) : ∃ b o, a = ⟨b, o, none⟩ := by
  obtain ⟨b, o, s⟩ := a
  have hs := World.cell?_spot h
  have : s = none := by simpa [Addr.add] using hs
  exact ⟨b, o, by rw [this]⟩
set_option maxRecDepth 100000 in
/-- An argument that is a slice of cells in rows of k: what it reads as. -/
theorem open_rows {H : Type} {enc : TypeId × Value → H} {W : World} {r : Reach} {b0 : Nat} {v : Value} {d : DataW H} {ps : List MemPlace} {α : Type} {en : α → List Value} {k : Nat} {T E : TypeId} {good : α → Prop} (hT : Try.prog.underlying T = some (.slice E)) (hk : Try.prog.cellsOf E = k) (hk0 : 0 < k)
    (hen : ∀ x, (en x).length = k) (hel : ∀ (n : Nat) (cs : List Value) (x : DataW H × List MemPlace), DataW.trod enc Try.prog W 0 (fun _ => true) true n E cs = some x → cs.length = k → ∃ t : α, cs = en t ∧ good t)
    (hv : Value.okWide Try.prog W r b0 T v) (h : DataW.Trod enc Try.prog W 0 (fun _ => true) true T v d ps) :
    ∃ A c xs, v = .slice A xs.length c ∧ (xs ≠ [] → Sl en k W W.heap.size A xs) ∧ (∀ x ∈ xs, good x) ∧ xs.length ≤ c ∧ xs.length ≤ 9223372036854775807 := by
  obtain ⟨a0, len, cap, rfl⟩ := okWide_slice hT hv
  obtain ⟨fuel, hf⟩ := h
  rcases open_slice hT hf with ⟨hcs, _⟩ | ⟨a, len', cap', m, n, D, Pl, hcs, _, hl, hm, hmm, _, hx⟩
  · simp only [Value.cells, List.cons.injEq, Value.slice.injEq, and_true] at hcs
    obtain ⟨rfl, rfl, rfl⟩ := hcs
    exact ⟨none, 0, [], rfl, fun h => absurd rfl h, by simp, by simp, by simp⟩
  · simp only [Value.cells, List.cons.injEq, Value.slice.injEq, and_true] at hcs
    obtain ⟨rfl, rfl, rfl⟩ := hcs
    simp only [if_true] at hmm
    subst hmm
    have key : ∀ i, i < len → ∃ t : α, good t ∧ ∀ j u, (en t)[j]? = some u → W.cell? (a.add (i * k + j)) = some u := fun i hi => by
      obtain ⟨cs', h1, h2⟩ := hx i (by omega)
      rw [hk] at h1
      obtain ⟨_, hlen, hcell⟩ := World.cells?_some h1
      obtain ⟨t, rfl, hg⟩ := hel n cs' _ h2 hlen
      refine ⟨t, hg, fun j u hu => ?_⟩
      have hj : j < k := by rw [← hen t]; exact (List.getElem?_eq_some_iff.1 hu).1
      have := hcell j hj
      rw [add_add] at this
      rw [this, hu]
    have hchoose : ∃ xs : List α, xs.length = len ∧ ∀ i x, xs[i]? = some x → good x ∧ ∀ j u, (en x)[j]? = some u → W.cell? (a.add (i * k + j)) = some u := by
      clear hx hv hf
      have : ∀ l, l ≤ len → ∃ xs : List α, xs.length = l ∧ ∀ i x, xs[i]? = some x → good x ∧ ∀ j u, (en x)[j]? = some u → W.cell? (a.add (i * k + j)) = some u := by
        intro l
        induction l with
        | zero => exact fun _ => ⟨[], rfl, by simp⟩
        | succ l ih =>
          intro hle
          obtain ⟨xs, h1, h2⟩ := ih (by omega)
          obtain ⟨t, hg, ht⟩ := key l (by omega)
          refine ⟨xs ++ [t], by simp [h1], fun i x hi => ?_⟩
          rcases Nat.lt_or_ge i l with hlt | hge
          · rw [List.getElem?_append_left (by omega)] at hi
            exact h2 i x hi
          · rw [List.getElem?_append_right (by omega)] at hi
            have h0 := (List.getElem?_eq_some_iff.1 hi).1
            simp at h0
            have hil : i = l := by omega
            subst hil
            simp [h1] at hi
            subst hi
            exact ⟨hg, ht⟩
      exact this len (Nat.le_refl _)
    obtain ⟨xs, hxl, hxs⟩ := hchoose
    subst hxl
    unfold maxLen at hm
    refine ⟨some a, _, xs, rfl, fun hne => ?_, fun x hx => ?_, hl, by omega⟩
    · obtain ⟨x0, hx0⟩ : ∃ x, xs[0]? = some x := ⟨_, List.getElem?_eq_getElem (List.length_pos_iff.2 hne)⟩
      have hu : (en x0)[0]? = some ((en x0)[0]'(by rw [hen]; exact hk0)) := List.getElem?_eq_getElem _
      have hc0 := (hxs 0 x0 hx0).2 0 _ hu
      rw [Nat.zero_mul, Nat.add_zero] at hc0
      obtain ⟨b, o, rfl⟩ := plain_of_cell hc0
      refine .inr ⟨b, o, rfl, ?_, fun i x hi j u hj => ?_⟩
      · have := World.block_lt_of_cell? W _ hc0
        rw [add_none] at this
        exact this
      · have := (hxs i x hi).2 j u hj
        rw [add_none, ← Nat.add_assoc] at this
        exact this
    · obtain ⟨i, hi⟩ := List.mem_iff_getElem?.1 hx
      exact (hxs i x hi).1
set_option maxRecDepth 100000 in
theorem open_nines {H : Type} {enc : TypeId × Value → H} {W : World} {r : Reach} {b0 : Nat} {v : Value} {d : DataW H} {ps : List MemPlace} (hv : Value.okWide Try.prog W r b0 34 v) (h : DataW.Trod enc Try.prog W 0 (fun _ => true) true 34 v d ps) :
    ∃ A c ns, v = .slice A ns.length c ∧ (ns ≠ [] → Sl encT 9 W W.heap.size A ns) ∧ (∀ t ∈ ns, fitsT t) ∧ ns.length ≤ c ∧ ns.length ≤ 9223372036854775807 :=
  open_rows Try.underlying34 (by kernel_rfl) (by omega) (fun _ => rfl) (fun _ _ _ h hl => open_nine h hl) hv h
set_option maxRecDepth 100000 in
theorem open_byte {H : Type} {enc : TypeId × Value → H} {W : World} {sp : Nat → Bool} {n : Nat} {cs : List Value} {x : DataW H × List MemPlace} (h : DataW.trod enc Try.prog W 0 sp true n 5 cs = some x) (hl : cs.length = 1) : ∃ t : Nat, cs = encB t ∧ t < 256 := by
  match cs, hl with
  | [a], _ =>
    obtain ⟨n, e, _, w⟩ := DataW.trod_int Try.underlying5 h
    injection e with e
    simp [Lit.wf, IntKind.min, IntKind.max, IntKind.signed, IntKind.bits] at w
    refine ⟨n.toNat, ?_, by omega⟩
    rw [e]
    unfold encB
    rw [Int.toNat_of_nonneg (by omega)]
set_option maxRecDepth 100000 in
theorem open_bytes {H : Type} {enc : TypeId × Value → H} {W : World} {r : Reach} {b0 : Nat} {v : Value} {d : DataW H} {ps : List MemPlace} (hv : Value.okWide Try.prog W r b0 43 v) (h : DataW.Trod enc Try.prog W 0 (fun _ => true) true 43 v d ps) :
    ∃ A c ns, v = .slice A ns.length c ∧ (ns ≠ [] → Sl encB 1 W W.heap.size A ns) ∧ (∀ t ∈ ns, t < 256) ∧ ns.length ≤ c ∧ ns.length ≤ 9223372036854775807 :=
  open_rows Try.underlying43 (by kernel_rfl) (by omega) (fun _ => rfl) (fun _ _ _ h hl => open_byte h hl) hv h
set_option maxRecDepth 100000 in
theorem open_u8 {H : Type} {enc : TypeId × Value → H} {W : World} {r : Reach} {b0 : Nat} {v : Value} {d : DataW H} {ps : List MemPlace} (hv : Value.okWide Try.prog W r b0 5 v) (h : DataW.Trod enc Try.prog W 0 (fun _ => true) true 5 v d ps) : ∃ n : Nat, v = .int .u8 n ∧ n < 256 := by
  obtain ⟨x, rfl, _, _, w⟩ := open_int Try.underlying5 hv h
  simp [Lit.wf, IntKind.min, IntKind.max, IntKind.signed, IntKind.bits] at w
  exact ⟨x.toNat, by rw [Int.toNat_of_nonneg (by omega)], by omega⟩
end Go.Proofs.Ytgndbpkgehjelaa
