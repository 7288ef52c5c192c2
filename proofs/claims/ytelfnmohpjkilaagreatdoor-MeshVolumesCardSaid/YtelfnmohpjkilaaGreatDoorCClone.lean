/- slices.Clone at triangles, by its contract. -/
import Derived.Test.YtelfnmohpjkilaaGreatDoorCB16
import Derived.Test.YtelfnmohpjkilaaGreatDoorCB18
namespace Go.Proofs.YtelfnmohpjkilaaGreatDoor
open Go.RowKit Go.Sort Go.Shelf
theorem flat_one {α : Type} {enc : α → List Value} (h1 : ∀ x, ∀ u ∈ enc x, u.oneCell' = true) (xs : List α) : ∀ u ∈ xs.flatMap enc, u.oneCell' = true := by
  intro u hu
  obtain ⟨x, _, hx⟩ := List.mem_flatMap.1 hu
  exact h1 x u hx
theorem Sl.flat {α : Type} {enc : α → List Value} {k : Nat} (hk : ∀ x, (enc x).length = k) {w : World} {b o : Nat} {xs : List α}
    (h : ∀ i x, xs[i]? = some x → ∀ j u, (enc x)[j]? = some u → w.cell? ⟨b, o + i * k + j, none⟩ = some u) : ∀ t u, (xs.flatMap enc)[t]? = some u → w.cell? ⟨b, o + t, none⟩ = some u := by
  intro t u hu
  have ht : t < xs.length * k := by rw [← flat_len hk xs]; exact (List.getElem?_eq_some_iff.1 hu).1
  have hk0 : 0 < k := by rcases Nat.eq_zero_or_pos k with h0 | h0; · subst h0; simp at ht
                         · exact h0
  have hi : t / k < xs.length := (Nat.div_lt_iff_lt_mul hk0).2 ht
  have hj : t % k < (enc xs[t / k]).length := by rw [hk]; exact Nat.mod_lt _ hk0
  have hx : xs[t / k]? = some xs[t / k] := List.getElem?_eq_getElem hi
  have hv : (enc xs[t / k])[t % k]? = some ((enc xs[t / k])[t % k]) := List.getElem?_eq_getElem hj
  have h2 := flat_get hk xs _ _ hx _ _ hv
  rw [Nat.div_add_mod' t k, hu] at h2
  have h3 := h _ _ hx _ _ hv
  rw [Nat.add_assoc, Nat.div_add_mod' t k, ← h2] at h3
  exact h3
end Go.Proofs.YtelfnmohpjkilaaGreatDoor
