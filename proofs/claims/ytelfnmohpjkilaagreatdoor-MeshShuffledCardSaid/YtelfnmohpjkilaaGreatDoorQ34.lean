/- Args4C. -/
import Derived.WalkKit
import Derived.WalkSpells
import Derived.WalkLawsBesides
import Derived.Laws.OwnMore
import Derived.Deep.AppendLies
import Derived.Deep.Draws
import Derived.Maps.AppendAt
import Derived.OwnWalk
import Derived.Sort.Grow
import Derived.Shelf.GgSortFunc.RowK
import Derived.RangeFuncNested
import Derived.RangeFuncBox
import Derived.OrdersHeld
import Derived.OrdersIn
import Derived.RangeFuncCalls
import Derived.OwnWalkIn
import Derived.Test.YtelfnmohpjkilaaGreatDoorRows
import Derived.Carry
import Derived.OpenShut
import Derived.ProofKit
import Derived.ChangeSame
import Derived.Handy
import Derived.Deep.Slices
import Derived.Test.YtelfnmohpjkilaaGreatDoorProg
import Derived.Deep.QuietTactic
import Derived.BigQuiet
import Derived.LoopN
import Derived.Laws.EntriesVeiled
import Derived.Shelf.SlSortCmp.QuietGrown
import Derived.Deep.RegionHeld3
import Derived.Deep.DrawnRows
import Derived.Sort.Statements
import Derived.Shelf.SlSortCmp.NoneTotal
import Derived.Maps.Own
import Derived.Maps.Views
import Derived.DeepKeys4
import Derived.DeepKeys
import Derived.Laws.StructEq
import Derived.Deep.CutBlock
import Derived.Deep.DeepCutAuto
import Derived.StillTailTactics
import Derived.IntWalk
import Derived.Deep.WholeRow
import Derived.Great.BuildSlice
import Derived.Great.Walk
import Derived.Test.YtelfnmohpjkilaaGreatDoorQ22
import Derived.Test.YtelfnmohpjkilaaGreatDoorQ33
namespace Go.Proofs.YtelfnmohpjkilaaGreatDoor
open Go.ChangeShapes Go.WideShapes Go.ChangeAt Go.RowKit Go.Deep
theorem plain_of_cell5 {W : World} {a : Addr} {u : Value} (h : W.cell? (a.add 0) = some u) : ∃ b o, a = ⟨b, o, none⟩ := by
  obtain ⟨b, o, s⟩ := a
  have hs := World.cell?_spot h
  have : s = none := by simpa [Addr.add] using hs
  exact ⟨b, o, by rw [this]⟩
set_option maxRecDepth 100000 in
/-- An argument that is a slice of cells in rows of k: what it reads as. -/
theorem open_rows5 {H : Type} {enc : TypeId × Value → H} {W : World} {v : Value} {α : Type} {en : α → List Value} {k : Nat} {T E : TypeId} {good : α → Prop} (hT : Tryz.prog.underlying T = some (.slice E)) (hk : Tryz.prog.cellsOf E = k) (hk0 : 0 < k)
    (hen : ∀ x, (en x).length = k) (hel : ∀ (n : Nat) (cs : List Value) (x : DataW H × List MemPlace), DataW.trod enc Tryz.prog W 0 (fun _ => true) true n E cs = some x → cs.length = k → ∃ t : α, cs = en t ∧ good t)
    {fuel : Nat} {y : DataW H × List MemPlace} (hf : DataW.trod enc Tryz.prog W 0 (fun _ => true) true fuel T [v] = some y) :
    ∃ A c xs, v = .slice A xs.length c ∧ (xs ≠ [] → Sl en k W W.heap.size A xs) ∧ (∀ x ∈ xs, good x) ∧ xs.length ≤ c ∧ xs.length ≤ 9223372036854775807 := by
  rcases open_slice hT hf with ⟨hcs, _⟩ | ⟨a, len', cap', m, n, D, Pl, hcs, _, hl, hm, hmm, _, hx⟩
  · simp only [List.cons.injEq, and_true] at hcs
    subst hcs
    exact ⟨none, 0, [], rfl, fun h => absurd rfl h, by simp, by simp, by simp⟩
  · simp only [List.cons.injEq, and_true] at hcs
    subst hcs
    obtain ⟨len, rfl⟩ : ∃ l, l = len' := ⟨_, rfl⟩
    simp only [if_true] at hmm
    subst hmm
    have key : ∀ i, i < len → ∃ t : α, good t ∧ ∀ j u, (en t)[j]? = some u → W.cell? (a.add (i * k + j)) = some u := fun i hi => by
      obtain ⟨cs', h1, h2⟩ := hx i (by omega)
      rw [hk] at h1
      obtain ⟨_, hlen, hcell⟩ := World.cells?_some h1
      obtain ⟨t, rfl, hg⟩ := hel n cs' _ h2 hlen
      refine ⟨t, hg, fun j u hu => ?_⟩
      have hj : j < k := by rw [← hen t]; exact (List.getElem?_eq_some_iff.1 hu).1
      have := hcell j hj
      rw [add_add] at this
      rw [this, hu]
    have hchoose : ∃ xs : List α, xs.length = len ∧ ∀ i x, xs[i]? = some x → good x ∧ ∀ j u, (en x)[j]? = some u → W.cell? (a.add (i * k + j)) = some u := by
      clear hx
      have : ∀ l, l ≤ len → ∃ xs : List α, xs.length = l ∧ ∀ i x, xs[i]? = some x → good x ∧ ∀ j u, (en x)[j]? = some u → W.cell? (a.add (i * k + j)) = some u := by
        intro l
        induction l with
        | zero => exact fun _ => ⟨[], rfl, by simp⟩
        | succ l ih =>
          intro hle
          obtain ⟨xs, h1, h2⟩ := ih (by omega)
          obtain ⟨t, hg, ht⟩ := key l (by omega)
          refine ⟨xs ++ [t], by simp [h1], fun i x hi => ?_⟩
          rcases Nat.lt_or_ge i l with hlt | hge
          · rw [List.getElem?_append_left (by omega)] at hi
            exact h2 i x hi
          · rw [List.getElem?_append_right (by omega)] at hi
            have h0 := (List.getElem?_eq_some_iff.1 hi).1
            simp at h0
            have hil : i = l := by omega
            subst hil
            simp [h1] at hi
            subst hi
            exact ⟨hg, ht⟩
      exact this len (Nat.le_refl _)
    obtain ⟨xs, hxl, hxs⟩ := hchoose
    subst hxl
    unfold maxLen at hm
    refine ⟨some a, _, xs, rfl, fun hne => ?_, fun x hx => ?_, hl, by omega⟩
    · obtain ⟨x0, hx0⟩ : ∃ x, xs[0]? = some x := ⟨_, List.getElem?_eq_getElem (List.length_pos_iff.2 hne)⟩
      have hu : (en x0)[0]? = some ((en x0)[0]'(by rw [hen]; exact hk0)) := List.getElem?_eq_getElem _
      have hc0 := (hxs 0 x0 hx0).2 0 _ hu
      rw [Nat.zero_mul, Nat.add_zero] at hc0
      obtain ⟨b, o, rfl⟩ := plain_of_cell5 hc0
      refine .inr ⟨b, o, rfl, ?_, fun i x hi j u hj => ?_⟩
      · have := World.block_lt_of_cell? W _ hc0
        rw [add_none] at this
        exact this
      · have := (hxs i x hi).2 j u hj
        rw [add_none, ← Nat.add_assoc] at this
        exact this
    · obtain ⟨i, hi⟩ := List.mem_iff_getElem?.1 hx
      exact (hxs i x hi).1
end Go.Proofs.YtelfnmohpjkilaaGreatDoor
