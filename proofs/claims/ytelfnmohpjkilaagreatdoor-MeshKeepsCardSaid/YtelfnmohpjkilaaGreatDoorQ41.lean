/- Pcs SetW. -/
import Derived.WalkKit
import Derived.WalkSpells
import Derived.WalkLawsBesides
import Derived.Laws.OwnMore
import Derived.Deep.AppendLies
import Derived.Deep.Draws
import Derived.Maps.AppendAt
import Derived.OwnWalk
import Derived.Sort.Grow
import Derived.Shelf.GgSortFunc.RowK
import Derived.RangeFuncNested
import Derived.RangeFuncBox
import Derived.Test.YtelfnmohpjkilaaGreatDoorQ11
namespace Go.Proofs.YtelfnmohpjkilaaGreatDoor
open Go.RowKit Go.Sort

section
variable {α : Type} {enc : α → List Value} {k : Nat} {e te : TypeId} {w w' : World} {base : Nat} {v : Value} {n : Nat} {xs : List α} {ps : List (List α)}
/-- What is read lies on where another block turns. -/
theorem Sl.grown {row : Option Nat} {B b o : Nat} (h : Sl enc k w B (some ⟨b, o, none⟩) xs) (hg : w.grownBy w' row) (hB : B ≤ w.heap.size) (hr : some b ≠ row) : Sl enc k w' B (some ⟨b, o, none⟩) xs := by
  rcases h with ⟨_, h⟩ | ⟨b', o', ha, hb, hc⟩
  · cases h
  · cases ha
    refine .inr ⟨b, o, rfl, hb, fun i x hx j u hu => ?_⟩
    have := hc i x hx j u hu
    have hbk := hg.block b (by omega) hr
    unfold World.cell? at this ⊢
    rw [hbk]
    exact this
end


end Go.Proofs.YtelfnmohpjkilaaGreatDoor
namespace Go.Proofs.YtelfnmohpjkilaaGreatDoor
open Go.RowKit Go.Sort
def setMany {β : Type} : List β → Nat → List β → List β
  | l, _, [] => l
  | l, o, v :: vs => setMany (l.set o v) (o + 1) vs
theorem setMany_eq {β : Type} : ∀ (vs l : List β) (o : Nat), o + vs.length ≤ l.length → setMany l o vs = l.take o ++ vs ++ l.drop (o + vs.length)
  | [], l, o, _ => by simp [setMany]
  | v :: vs, l, o, h => by
    rw [List.length_cons] at h
    rw [setMany, setMany_eq vs (l.set o v) (o + 1) (by rw [List.length_set]; omega)]
    have h1 : (l.set o v).take (o + 1) = l.take o ++ [v] := by
      rw [List.take_succ_eq_append_getElem (by rw [List.length_set]; omega), List.getElem_set_self, List.take_set_of_le (Nat.le_refl _)]
    have h2 : (l.set o v).drop (o + 1 + vs.length) = l.drop (o + (v :: vs).length) := by
      rw [List.drop_set_of_lt (by omega), List.length_cons]
      congr 1
      omega
    rw [h1, h2]
    simp
def setW : World → Nat → Nat → List Value → World
  | w, _, _, [] => w
  | w, g, o, v :: vs => setW (w.setCell ⟨g, o, none⟩ v) g (o + 1) vs
theorem setW_heap {e : TypeId} {z : Nat × Nat} {g : Nat} : ∀ (vs : List Value) (w : World) (o : Nat) (cs : Array Value), w.heap[g]? = some (.cells cs e z) → ∃ cs' : Array Value, (setW w g o vs).heap[g]? = some (.cells cs' e z) ∧ cs'.toList = setMany cs.toList o vs
  | [], w, o, cs, h => ⟨cs, h, rfl⟩
  | v :: vs, w, o, cs, h => by
    have h1 : (w.setCell ⟨g, o, none⟩ v).heap[g]? = some (.cells (cs.setIfInBounds o v) e z) := by
      simp [World.setCell, Array.getElem?_modify, h]
    obtain ⟨cs', h2, h3⟩ := setW_heap vs (w.setCell ⟨g, o, none⟩ v) (o + 1) _ h1
    exact ⟨cs', h2, by rw [h3, Array.toList_setIfInBounds]; rfl⟩
theorem flat_set {α : Type} {enc : α → List Value} {k : Nat} (hk : ∀ x, (enc x).length = k) : ∀ (xs : List α) (i : Nat) (y : α), i < xs.length → (xs.set i y).flatMap enc = (xs.flatMap enc).take (i * k) ++ enc y ++ (xs.flatMap enc).drop (i * k + k)
  | x :: xs, 0, y, _ => by
    have h1 : (enc x ++ xs.flatMap enc).drop (0 + k) = xs.flatMap enc := by
      rw [Nat.zero_add]
      have := List.drop_left (l₁ := enc x) (l₂ := xs.flatMap enc)
      rw [hk] at this
      exact this
    simp only [List.set_cons_zero, List.flatMap_cons, Nat.zero_mul, List.take_zero, List.nil_append, h1]
  | x :: xs, i + 1, y, h => by
    have ih := flat_set hk xs i y (by simpa using h)
    simp only [List.set_cons_succ, List.flatMap_cons]
    rw [ih]
    have e1 : (enc x ++ xs.flatMap enc).take ((i + 1) * k) = enc x ++ (xs.flatMap enc).take (i * k) := by
      rw [List.take_append, hk, List.take_of_length_le (by rw [hk, Nat.add_mul]; omega)]
      congr 2
      rw [Nat.add_mul]; omega
    have e2 : (enc x ++ xs.flatMap enc).drop ((i + 1) * k + k) = (xs.flatMap enc).drop (i * k + k) := by
      rw [List.drop_append, hk, List.drop_eq_nil_of_le (by rw [hk, Nat.add_mul]; omega), List.nil_append]
      congr 1
      rw [Nat.add_mul]; omega
    rw [e1, e2]
    simp
  | [], _, _, h => by simp at h
theorem Own.setW {α : Type} {enc : α → List Value} {k : Nat} {e : TypeId} {w : World} {base n cap g i : Nat} {xs : List α} (hk : ∀ x, (enc x).length = k) (h : Own enc k e w base (.slice (some ⟨g, 0, none⟩) n cap) n xs) (hi : i < xs.length) (y : α) :
    Own enc k e (Proofs.YtelfnmohpjkilaaGreatDoor.setW w g (i * k) (enc y)) base (.slice (some ⟨g, 0, none⟩) n cap) n (xs.set i y) := by
  refine ⟨by simpa using h.1, ?_⟩
  obtain ⟨h0, h1⟩ := h.2
  have hn := h.1
  have hfl := flat_len hk xs
  have hfl2 := flat_len hk (xs.set i y)
  rw [List.length_set] at hfl2
  have hik : i * k + k ≤ xs.length * k := by
    have := Nat.mul_le_mul_right k (show i + 1 ≤ xs.length from hi)
    rw [Nat.add_mul] at this; omega
  refine ⟨by rw [hfl2, hn], ?_⟩
  rcases h1 with ⟨h1, _⟩ | ⟨g', cap', cur, h1, hb, hheap, hnc, hcm, hsz, htake⟩
  · cases h1
  · cases h1
    obtain ⟨cs', h2, h3⟩ := setW_heap (enc y) w (i * k) cur hheap
    have hcl : xs.length * k ≤ cur.toList.length := by
      have e1 : cur.toList.length = cur.size := Array.length_toList
      rw [e1, hsz]
      exact Nat.mul_le_mul_right _ (by omega)
    have hsm := setMany_eq (enc y) cur.toList (i * k) (by rw [hk]; omega)
    rw [hk] at hsm
    refine .inr ⟨g, cap, cs', rfl, hb, h2, hnc, hcm, ?_, ?_⟩
    · have : cs'.toList.length = cur.toList.length := by
        rw [h3, hsm]
        simp only [List.length_append, List.length_take, List.length_drop, hk]
        omega
      simpa [hsz] using this
    · rw [h3, hsm, flat_set hk xs i y hi, ← htake, hn]
      rw [List.take_append, List.take_append, List.take_take, List.length_take, List.length_append, List.length_take, hk]
      rw [show min (xs.length * k) (i * k) = i * k by omega, show min (i * k) cur.toList.length = i * k by omega]
      rw [List.take_of_length_le (l := enc y) (by rw [hk]; omega), List.take_take, show min (i * k) (xs.length * k) = i * k by omega]
      congr 1
      rw [List.drop_take]
end Go.Proofs.YtelfnmohpjkilaaGreatDoor
