/- One cell of a triangle in an owned slice is set. No dump is named. -/
import Derived.Test.YtfljcgehhnmamaaCPutP
namespace Go.Proofs.Ytfljcgehhnmamaa
open Go.RowKit Go.Sort
def cellZ (t : Tri) (m : Nat) : Int := if m = 0 then t.1.1 else if m = 1 then t.1.2.1 else if m = 2 then t.1.2.2 else if m = 3 then t.2.1.1 else if m = 4 then t.2.1.2.1 else if m = 5 then t.2.1.2.2 else if m = 6 then t.2.2.1 else if m = 7 then t.2.2.2.1 else t.2.2.2.2
def putZ (t : Tri) (m : Nat) (v : Int) : Tri :=
  if m = 0 then ((v, t.1.2), t.2) else if m = 1 then ((t.1.1, v, t.1.2.2), t.2) else if m = 2 then ((t.1.1, t.1.2.1, v), t.2)
  else if m = 3 then (t.1, (v, t.2.1.2), t.2.2) else if m = 4 then (t.1, (t.2.1.1, v, t.2.1.2.2), t.2.2) else if m = 5 then (t.1, (t.2.1.1, t.2.1.2.1, v), t.2.2)
  else if m = 6 then (t.1, t.2.1, (v, t.2.2.2)) else if m = 7 then (t.1, t.2.1, (t.2.2.1, v, t.2.2.2.2)) else (t.1, t.2.1, (t.2.2.1, t.2.2.2.1, v))
theorem flat_putZ {xs : List Tri} {i m : Nat} {t : Tri} (hi : xs[i]? = some t) (hm : m < 9) (v : Int) : (xs.set i (putZ t m v)).flatMap encT = setMany (xs.flatMap encT) (i * 9 + m) [.int .i64 v] := by
  have hil : i < xs.length := (List.getElem?_eq_some_iff.1 hi).1
  have e0 : xs = xs.set i t := by
    rw [List.getElem?_eq_getElem hil] at hi
    cases hi
    exact (List.set_getElem_self hil).symm
  have hfl := flat_len encT_len xs
  have hlen : i * 9 + 9 ≤ (xs.flatMap encT).length := by rw [hfl]; omega
  rw [setMany_eq _ _ _ (by show i * 9 + m + 1 ≤ _; omega), flat_set encT_len xs i _ hil]
  have e1 : xs.flatMap encT = (xs.flatMap encT).take (i * 9) ++ encT t ++ (xs.flatMap encT).drop (i * 9 + 9) := by
    have := flat_set encT_len xs i t hil
    rw [← e0] at this
    exact this
  obtain ⟨L, hL⟩ : ∃ L, L = (xs.flatMap encT).take (i * 9) := ⟨_, rfl⟩
  obtain ⟨R, hR⟩ : ∃ R, R = (xs.flatMap encT).drop (i * 9 + 9) := ⟨_, rfl⟩
  have hLl : L.length = i * 9 := by rw [hL, List.length_take]; omega
  rw [← hL, ← hR] at e1
  rw [← hL, ← hR, e1]
  have e2 : (L ++ encT t ++ R).take (i * 9 + m) = L ++ (encT t).take m := by
    rw [List.append_assoc, ← hLl, List.take_append, List.take_of_length_le (by omega), Nat.add_sub_cancel_left, List.take_append]
    have : m - (encT t).length = 0 := by rw [encT_len]; omega
    rw [this]; simp
  have e3 : (L ++ encT t ++ R).drop (i * 9 + m + [Value.int .i64 v].length) = (encT t).drop (m + 1) ++ R := by
    rw [List.append_assoc, ← hLl, Nat.add_assoc, List.drop_append, List.drop_eq_nil_of_le (by omega), List.nil_append, Nat.add_sub_cancel_left, List.drop_append]
    have : m + [Value.int .i64 v].length - (encT t).length = 0 := by rw [encT_len]; show m + 1 - 9 = 0; omega
    rw [this]; rfl
  rw [e2, e3]
  have hc : m = 0 ∨ m = 1 ∨ m = 2 ∨ m = 3 ∨ m = 4 ∨ m = 5 ∨ m = 6 ∨ m = 7 ∨ m = 8 := by omega
  rcases hc with rfl | rfl | rfl | rfl | rfl | rfl | rfl | rfl | rfl <;> simp [putZ, encT]
theorem Own.putZ {e : TypeId} {w : World} {base n cap g i m : Nat} {xs : List Tri} {t : Tri} (h : Own encT 9 e w base (.slice (some ⟨g, 0, none⟩) n cap) n xs) (hi : xs[i]? = some t) (hm : m < 9) (v : Int) :
    Own encT 9 e (w.setCell ⟨g, i * 9 + m, none⟩ (.int .i64 v)) base (.slice (some ⟨g, 0, none⟩) n cap) n (xs.set i (Proofs.Ytfljcgehhnmamaa.putZ t m v)) := by
  have hil : i < xs.length := (List.getElem?_eq_some_iff.1 hi).1
  have hn := h.1
  exact own_many (vs := [.int .i64 v]) encT_len h (by simp) (by show i * 9 + m + 1 ≤ n * 9; omega) (flat_putZ hi hm v)
/-- A cell of an element, and that it may be written. -/
theorem Own.atZ {e : TypeId} {w : World} {base n cap g i m : Nat} {xs : List Tri} {t : Tri} (h : Own encT 9 e w base (.slice (some ⟨g, 0, none⟩) n cap) n xs) (hi : xs[i]? = some t) (hm : m < 9) :
    w.cell? ⟨g, i * 9 + m, none⟩ = some (.int .i64 (cellZ t m)) ∧ w.frozen? ⟨g, i * 9 + m, none⟩ = false ∧ g < w.heap.size := by
  obtain ⟨b, o, hbo, hlt, hcl⟩ := (h.sl encT_len (Nat.le_refl _)).at hi
  cases hbo
  obtain ⟨cs, hcs⟩ := h.cells g rfl
  refine ⟨?_, Blk.frozen hcs _, hlt⟩
  have hc : m = 0 ∨ m = 1 ∨ m = 2 ∨ m = 3 ∨ m = 4 ∨ m = 5 ∨ m = 6 ∨ m = 7 ∨ m = 8 := by omega
  have := hcl m (.int .i64 (cellZ t m)) (by rcases hc with rfl | rfl | rfl | rfl | rfl | rfl | rfl | rfl | rfl <;> rfl)
  rw [Nat.zero_add] at this
  exact this
/-- Kept by a write into another block. -/
theorem Own.off {α : Type} {enc : α → List Value} {k : Nat} {e : TypeId} {w : World} {base : Nat} {v : Value} {n : Nat} {xs : List α} (h : Own enc k e w base v n xs) {g o : Nat} (hg : g < base) (u : Value) : Own enc k e (w.setCell ⟨g, o, none⟩ u) base v n xs := by
  refine h.kept (row := some g) ?_ ?_
  · exact ⟨rfl, rfl, rfl, (KeepsWalks.setCell w _ u).size, fun k _ hne => Below.heap_setCell w ⟨g, o, none⟩ u k (fun e => hne (by rw [e]))⟩
  · cases hob : v.ownBlock with
    | none => exact .inl rfl
    | some gt =>
      refine .inr (fun e => ?_)
      injection e with e
      have := (h.blk gt hob).1
      omega
end Go.Proofs.Ytfljcgehhnmamaa
