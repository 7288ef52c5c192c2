/- An argument that is a slice of bools. -/
import Derived.Test.YtelfnmohpjkilaaDoorCPieW
import Derived.Test.YtelfnmohpjkilaaDoorCArgs4
namespace Go.Proofs.YtelfnmohpjkilaaDoor
open Go.ChangeShapes Go.WideShapes Go.ChangeAt Go.RowKit Go.Deep
theorem plain_of_cell4 {W : World} {a : Addr} {u : Value} (h : W.cell? (a.add 0) = some u) : ∃ b o, a = ⟨b, o, none⟩ := by
  obtain ⟨b, o, s⟩ := a
  have hs := World.cell?_spot h
  have : s = none := by simpa [Addr.add] using hs
  exact ⟨b, o, by rw [this]⟩
set_option maxRecDepth 100000 in
/-- An argument that is a slice of cells in rows of k: what it reads as. -/
theorem open_rows4 {H : Type} {enc : TypeId × Value → H} {W : World} {r : Reach} {b0 : Nat} {v : Value} {d : DataW H} {ps : List MemPlace} {α : Type} {en : α → List Value} {k : Nat} {T E : TypeId} {good : α → Prop} (hT : Tryd.prog.underlying T = some (.slice E)) (hk : Tryd.prog.cellsOf E = k) (hk0 : 0 < k)
    (hen : ∀ x, (en x).length = k) (hel : ∀ (n : Nat) (cs : List Value) (x : DataW H × List MemPlace), DataW.trod enc Tryd.prog W 0 (fun _ => true) true n E cs = some x → cs.length = k → ∃ t : α, cs = en t ∧ good t)
    (hv : Value.okWide Tryd.prog W r b0 T v) (h : DataW.Trod enc Tryd.prog W 0 (fun _ => true) true T v d ps) :
    ∃ A c xs, v = .slice A xs.length c ∧ (xs ≠ [] → Sl en k W W.heap.size A xs) ∧ (∀ x ∈ xs, good x) ∧ xs.length ≤ c ∧ xs.length ≤ 9223372036854775807 := by
  obtain ⟨a0, len, cap, rfl⟩ := okWide_slice hT hv
  obtain ⟨fuel, hf⟩ := h
  rcases open_slice hT hf with ⟨hcs, _⟩ | ⟨a, len', cap', m, n, D, Pl, hcs, _, hl, hm, hmm, _, hx⟩
  · simp only [Value.cells, List.cons.injEq, Value.slice.injEq, and_true] at hcs
    obtain ⟨rfl, rfl, rfl⟩ := hcs
    exact ⟨none, 0, [], rfl, fun h => absurd rfl h, by simp, by simp, by simp⟩
  · simp only [Value.cells, List.cons.injEq, Value.slice.injEq, and_true] at hcs
    obtain ⟨rfl, rfl, rfl⟩ := hcs
    simp only [if_true] at hmm
    subst hmm
    have key : ∀ i, i < len → ∃ t : α, good t ∧ ∀ j u, (en t)[j]? = some u → W.cell? (a.add (i * k + j)) = some u := fun i hi => by
      obtain ⟨cs', h1, h2⟩ := hx i (by omega)
      rw [hk] at h1
      obtain ⟨_, hlen, hcell⟩ := World.cells?_some h1
      obtain ⟨t, rfl, hg⟩ := hel n cs' _ h2 hlen
      refine ⟨t, hg, fun j u hu => ?_⟩
      have hj : j < k := by rw [← hen t]; exact (List.getElem?_eq_some_iff.1 hu).1
      have := hcell j hj
      rw [add_add] at this
      rw [this, hu]
    have hchoose : ∃ xs : List α, xs.length = len ∧ ∀ i x, xs[i]? = some x → good x ∧ ∀ j u, (en x)[j]? = some u → W.cell? (a.add (i * k + j)) = some u := by
      clear hx hv hf
      have : ∀ l, l ≤ len → ∃ xs : List α, xs.length = l ∧ ∀ i x, xs[i]? = some x → good x ∧ ∀ j u, (en x)[j]? = some u → W.cell? (a.add (i * k + j)) = some u := by
        intro l
        induction l with
        | zero => exact fun _ => ⟨[], rfl, by simp⟩
        | succ l ih =>
          intro hle
          obtain ⟨xs, h1, h2⟩ := ih (by omega)
          obtain ⟨t, hg, ht⟩ := key l (by omega)
          refine ⟨xs ++ [t], by simp [h1], fun i x hi => ?_⟩
          rcases Nat.lt_or_ge i l with hlt | hge
          · rw [List.getElem?_append_left (by omega)] at hi
            exact h2 i x hi
          · rw [List.getElem?_append_right (by omega)] at hi
            have h0 := (List.getElem?_eq_some_iff.1 hi).1
            simp at h0
            have hil : i = l := by omega
            subst hil
            simp [h1] at hi
            subst hi
            exact ⟨hg, ht⟩
      exact this len (Nat.le_refl _)
    obtain ⟨xs, hxl, hxs⟩ := hchoose
    subst hxl
    unfold maxLen at hm
    refine ⟨some a, _, xs, rfl, fun hne => ?_, fun x hx => ?_, hl, by omega⟩
    · obtain ⟨x0, hx0⟩ : ∃ x, xs[0]? = some x := ⟨_, List.getElem?_eq_getElem (List.length_pos_iff.2 hne)⟩
      have hu : (en x0)[0]? = some ((en x0)[0]'(by rw [hen]; exact hk0)) := List.getElem?_eq_getElem _
      have hc0 := (hxs 0 x0 hx0).2 0 _ hu
      rw [Nat.zero_mul, Nat.add_zero] at hc0
      obtain ⟨b, o, rfl⟩ := plain_of_cell4 hc0
      refine .inr ⟨b, o, rfl, ?_, fun i x hi j u hj => ?_⟩
      · have := World.block_lt_of_cell? W _ hc0
        rw [add_none] at this
        exact this
      · have := (hxs i x hi).2 j u hj
        rw [add_none, ← Nat.add_assoc] at this
        exact this
    · obtain ⟨i, hi⟩ := List.mem_iff_getElem?.1 hx
      exact (hxs i x hi).1
set_option maxRecDepth 100000 in
theorem open_boolE {H : Type} {enc : TypeId × Value → H} {W : World} {sp : Nat → Bool} {n : Nat} {cs : List Value} {x : DataW H × List MemPlace} (h : DataW.trod enc Tryd.prog W 0 sp true n 4 cs = some x) (hl : cs.length = 1) : ∃ t : Bool, cs = encBo t ∧ True := by
  match cs, hl with
  | [a], _ =>
    obtain ⟨b, e, _⟩ := DataW.trod_bool Tryd.underlying4 h
    injection e with e
    exact ⟨b, by rw [e]; rfl, trivial⟩
set_option maxRecDepth 100000 in
theorem open_bools4 {H : Type} {enc : TypeId × Value → H} {W : World} {r : Reach} {b0 : Nat} {v : Value} {d : DataW H} {ps : List MemPlace} (hv : Value.okWide Tryd.prog W r b0 42 v) (h : DataW.Trod enc Tryd.prog W 0 (fun _ => true) true 42 v d ps) :
    ∃ A c bs, v = .slice A bs.length c ∧ (bs ≠ [] → Sl encBo 1 W W.heap.size A bs) ∧ (∀ t ∈ bs, True) ∧ bs.length ≤ c ∧ bs.length ≤ 9223372036854775807 :=
  open_rows4 Tryd.underlying42 (by kernel_rfl) (by omega) (fun _ => rfl) (fun _ _ _ h hl => open_boolE h hl) hv h
end Go.Proofs.YtelfnmohpjkilaaDoor
