/- ref04.Spoiled: some list of triangles that fit, at most one longer (printed by mk_Spo.py). -/
import Derived.StillTailTactics
import Derived.Deep.DeepCutAuto
import Derived.Deep.CutBlock
import Derived.Test.YtelfnmohpjkilaaGreatDoorCB5
import Derived.Test.YtelfnmohpjkilaaGreatDoorCB8
import Derived.Test.YtelfnmohpjkilaaGreatDoorCB11
import Derived.Test.YtelfnmohpjkilaaGreatDoorCB18
import Derived.Test.YtelfnmohpjkilaaGreatDoorCB21
import Derived.Test.YtelfnmohpjkilaaGreatDoorCPutP
namespace Go.Proofs.YtelfnmohpjkilaaGreatDoor
open Go.RowKit Go.Sort
def FitL (L : List Tri) : Prop := ∀ t ∈ L, fitsT t
/-- What Spoiled gives, as a value in memory. -/
def SpoR (w w' : World) (N : Nat) (v : Value) : Prop := ∃ L : List Tri, Own encT 9 58 w' w.heap.size v L.length L ∧ L.length ≤ N + 1 ∧ FitL L ∧ Below w.heap.size w w'
theorem FitL.set {L : List Tri} (h : FitL L) (i : Nat) {y : Tri} (hy : fitsT y) : FitL (L.set i y) := fun t ht => by
  rcases List.mem_or_eq_of_mem_set ht with h1 | h1
  · exact h t h1
  · rw [h1]; exact hy
theorem FitL.app {L M : List Tri} (h : FitL L) (k : FitL M) : FitL (L ++ M) := fun t ht => by
  rcases List.mem_append.1 ht with h1 | h1
  · exact h t h1
  · exact k t h1
theorem Own.cutN {α : Type} {enc : α → List Value} {k : Nat} {e : TypeId} {w : World} {base n cap m : Nat} {A : Option Addr} {xs : List α} (hk : ∀ x, (enc x).length = k) (h : Own enc k e w base (.slice A n cap) n xs) (hm : m ≤ n) :
    Own enc k e w base (.slice A m cap) m (xs.take m) := by
  have hn := h.1
  refine ⟨by rw [List.length_take]; omega, ?_⟩
  obtain ⟨h0, h1⟩ := h.2
  have hl2 : ((xs.take m).flatMap enc).length = m * k := by rw [flat_len hk, List.length_take, Nat.min_eq_left (by omega)]
  refine ⟨hl2, ?_⟩
  rcases h1 with ⟨h1, h2⟩ | ⟨g', cap', cur, h1, hb, hheap, hnc, hcm, hsz, htake⟩
  · cases h1
    obtain rfl : m = 0 := by omega
    exact .inl ⟨rfl, by simp⟩
  · cases h1
    refine .inr ⟨g', cap, cur, rfl, hb, hheap, by omega, hcm, hsz, ?_⟩
    have e1 : ((xs.take m).flatMap enc) = (xs.flatMap enc).take (m * k) := by
      have := congrArg (fun l => (l.flatMap enc).take (m * k)) (List.take_append_drop m xs)
      simp only [List.flatMap_append] at this
      rw [← this, List.take_left' hl2]
    rw [e1, ← htake, List.take_take]
    congr 1
    exact (Nat.min_eq_left (Nat.mul_le_mul_right k (by omega))).symm
theorem putC_fits {t : Tri} (h : fitsT t) {p : Pt} (hp : fitsP p) (j : Nat) : fitsT (putC t j p) := by
  unfold putC
  split
  · exact ⟨hp, h.2.1, h.2.2⟩
  · split
    · exact ⟨h.1, hp, h.2.2⟩
    · exact ⟨h.1, h.2.1, hp⟩
theorem below_setW {B : Nat} {a w : World} {g : Nat} (h : Below B a w) (hg : B ≤ g) : ∀ (o : Nat) (vs : List Value), Below B a (setW w g o vs)
  | _, [] => h
  | o, v :: vs => below_setW (h.setCell (p := ⟨g, o, none⟩) hg v) hg (o + 1) vs
end Go.Proofs.YtelfnmohpjkilaaGreatDoor
