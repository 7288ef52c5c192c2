/- A literal of several elements, owned. No dump is named. -/
import Derived.Test.YtelfnmohpjkilaaDoorCB7
namespace Go.Proofs.YtelfnmohpjkilaaDoor
open Go.RowKit
theorem own_lits {α : Type} {enc : α → List Value} {k : Nat} (hk : ∀ x, (enc x).length = k) (e : TypeId) (w : World) {base : Nat} (xs : List α) (hb : base ≤ w.heap.size) (hn : xs.length ≤ 4294967296) :
    Own enc k e (w.alloc (.cells (xs.flatMap enc).toArray e)) base (.slice (some ⟨w.heap.size, 0, none⟩) xs.length xs.length) xs.length xs :=
  ⟨rfl, by simpa using World.ownsRow_lit (e := e) (size := k) w (xs.flatMap enc).toArray xs.length hb (by unfold maxLen; omega) (by simp [flat_len hk])⟩
theorem own_lits' {α : Type} {enc : α → List Value} {k : Nat} (hk : ∀ x, (enc x).length = k) (e : TypeId) {w : World} {base g : Nat} (xs : List α) (hg : g = w.heap.size) (hb : base ≤ g) (hn : xs.length ≤ 4294967296) :
    Own enc k e (w.alloc (.cells (xs.flatMap enc).toArray e)) base (.slice (some ⟨g, 0, none⟩) xs.length xs.length) xs.length xs := by
  subst hg
  exact own_lits hk e w xs hb hn
end Go.Proofs.YtelfnmohpjkilaaDoor
