/- PutP. -/
import Derived.WalkKit
import Derived.WalkSpells
import Derived.WalkLawsBesides
import Derived.Laws.OwnMore
import Derived.Deep.AppendLies
import Derived.Deep.Draws
import Derived.Maps.AppendAt
import Derived.OwnWalk
import Derived.Sort.Grow
import Derived.Shelf.GgSortFunc.RowK
import Derived.RangeFuncNested
import Derived.RangeFuncBox
import Derived.Test.YtelfnmohpjkilaaGreatDoorRows
import Derived.Handy
import Derived.Deep.QuietTactic
import Derived.BigQuiet
import Derived.LoopN
import Derived.Laws.EntriesVeiled
import Derived.Shelf.SlSortCmp.QuietGrown
import Derived.Deep.RegionHeld3
import Derived.Deep.DrawnRows
import Derived.Sort.Statements
import Derived.Shelf.SlSortCmp.NoneTotal
import Derived.Test.YtelfnmohpjkilaaGreatDoorQ18
import Derived.Test.YtelfnmohpjkilaaGreatDoorQ41
namespace Go.Proofs.YtelfnmohpjkilaaGreatDoor
open Go.RowKit Go.Sort
theorem own_many {α : Type} {enc : α → List Value} {k : Nat} {e : TypeId} {w : World} {base n cap g o : Nat} {xs ys : List α} {vs : List Value} (hk : ∀ x, (enc x).length = k) (h : Own enc k e w base (.slice (some ⟨g, 0, none⟩) n cap) n xs) (hl : ys.length = xs.length) (ho : o + vs.length ≤ n * k) (hf : ys.flatMap enc = setMany (xs.flatMap enc) o vs) :
    Own enc k e (setW w g o vs) base (.slice (some ⟨g, 0, none⟩) n cap) n ys := by
  refine ⟨by rw [hl]; exact h.1, ?_⟩
  obtain ⟨h0, h1⟩ := h.2
  have hn := h.1
  have hfl := flat_len hk xs
  have hfl2 := flat_len hk ys
  refine ⟨by rw [hfl2, hl, hn], ?_⟩
  rcases h1 with ⟨h1, _⟩ | ⟨g', cap', cur, h1, hb, hheap, hnc, hcm, hsz, htake⟩
  · cases h1
  · cases h1
    obtain ⟨cs', h2, h3⟩ := setW_heap vs w o cur hheap
    have e1 : cur.toList.length = cur.size := Array.length_toList
    have hnk : n * k ≤ cur.toList.length := by rw [e1, hsz]; exact Nat.mul_le_mul_right _ hnc
    have hsm := setMany_eq vs cur.toList o (by omega)
    have hsm2 := setMany_eq vs (xs.flatMap enc) o (by rw [hfl, ← hn]; exact ho)
    refine .inr ⟨g, cap, cs', rfl, hb, h2, hnc, hcm, ?_, ?_⟩
    · have : cs'.toList.length = cur.toList.length := by
        rw [h3, hsm]
        simp only [List.length_append, List.length_take, List.length_drop]
        omega
      simpa [hsz] using this
    · rw [h3, hsm, hf, hsm2, ← htake]
      rw [List.take_append, List.take_append, List.take_take, List.length_take, List.length_append, List.length_take]
      rw [show min (n * k) o = o by omega, show min o cur.toList.length = o by omega]
      rw [List.take_of_length_le (l := vs) (by omega), List.take_take, show min o (n * k) = o by omega]
      congr 1
      rw [List.drop_take]
/-- The triangle with another corner j. -/
def putC (t : Tri) (j : Nat) (p : Pt) : Tri := if j = 0 then (p, t.2.1, t.2.2) else if j = 1 then (t.1, p, t.2.2) else (t.1, t.2.1, p)
theorem flat_put {xs : List Tri} {i j : Nat} {t : Tri} (hi : xs[i]? = some t) (hj : j < 3) (p : Pt) : (xs.set i (putC t j p)).flatMap encT = setMany (xs.flatMap encT) (i * 9 + j * 3) (encP p) := by
  have hil : i < xs.length := (List.getElem?_eq_some_iff.1 hi).1
  have e0 : xs = xs.set i t := by
    rw [List.getElem?_eq_getElem hil] at hi
    cases hi
    exact (List.set_getElem_self hil).symm
  have hfl := flat_len encT_len xs
  have hlen : i * 9 + 9 ≤ (xs.flatMap encT).length := by rw [hfl]; omega
  rw [setMany_eq _ _ _ (by show i * 9 + j * 3 + 3 ≤ _; omega), flat_set encT_len xs i _ hil]
  have e1 : xs.flatMap encT = (xs.flatMap encT).take (i * 9) ++ encT t ++ (xs.flatMap encT).drop (i * 9 + 9) := by
    have := flat_set encT_len xs i t hil
    rw [← e0] at this
    exact this
  obtain ⟨L, hL⟩ : ∃ L, L = (xs.flatMap encT).take (i * 9) := ⟨_, rfl⟩
  obtain ⟨R, hR⟩ : ∃ R, R = (xs.flatMap encT).drop (i * 9 + 9) := ⟨_, rfl⟩
  have hLl : L.length = i * 9 := by rw [hL, List.length_take]; omega
  rw [← hL, ← hR] at e1
  rw [← hL, ← hR, e1]
  have e2 : (L ++ encT t ++ R).take (i * 9 + j * 3) = L ++ (encT t).take (j * 3) := by
    rw [List.append_assoc, ← hLl, List.take_append, List.take_of_length_le (by omega), Nat.add_sub_cancel_left, List.take_append]
    have : j * 3 - (encT t).length = 0 := by rw [encT_len]; omega
    rw [this]; simp
  have e3 : (L ++ encT t ++ R).drop (i * 9 + j * 3 + (encP p).length) = (encT t).drop (j * 3 + 3) ++ R := by
    rw [List.append_assoc, ← hLl, Nat.add_assoc, List.drop_append, List.drop_eq_nil_of_le (by omega), List.nil_append, Nat.add_sub_cancel_left, List.drop_append]
    have : j * 3 + (encP p).length - (encT t).length = 0 := by rw [encT_len]; show j * 3 + 3 - 9 = 0; omega
    rw [this]; rfl
  rw [e2, e3]
  have hc : j = 0 ∨ j = 1 ∨ j = 2 := by omega
  rcases hc with rfl | rfl | rfl <;> simp [putC, encT, encP]
theorem Own.putP {e : TypeId} {w : World} {base n cap g i j : Nat} {xs : List Tri} {t : Tri} (h : Own encT 9 e w base (.slice (some ⟨g, 0, none⟩) n cap) n xs) (hi : xs[i]? = some t) (hj : j < 3) (p : Pt) :
    Own encT 9 e (((w.setCell ⟨g, i * 9 + j * 3, none⟩ (.int .i64 p.1)).setCell ⟨g, i * 9 + j * 3 + 1, none⟩ (.int .i64 p.2.1)).setCell ⟨g, i * 9 + j * 3 + 2, none⟩ (.int .i64 p.2.2)) base (.slice (some ⟨g, 0, none⟩) n cap) n (xs.set i (putC t j p)) := by
  have hil : i < xs.length := (List.getElem?_eq_some_iff.1 hi).1
  have hn := h.1
  exact own_many (vs := encP p) encT_len h (by simp) (by show i * 9 + j * 3 + 3 ≤ n * 9; omega) (flat_put hi hj p)
end Go.Proofs.YtelfnmohpjkilaaGreatDoor
