/- Groups of elements by points; no dump is named. -/
import Derived.Test.YtgndbpkgehjelaaPcs
namespace Go.Proofs.Ytgndbpkgehjelaa
open Go.RowKit Go.Sort

section
variable {α : Type} (key : α → Pt)
def addKey (acc : List Pt) (p : Pt) : List Pt := if p ∈ acc then acc else acc ++ [p]
def keysOf (xs : List α) : List Pt := xs.foldl (fun acc x => addKey acc (key x)) []
def grp (xs : List α) (p : Pt) : List α := xs.filter fun x => decide (key x = p)
theorem keysOf_snoc (xs : List α) (x : α) : keysOf key (xs ++ [x]) = addKey (keysOf key xs) (key x) := by simp [keysOf, List.foldl_append]
theorem mem_addKey {acc : List Pt} {p q : Pt} : q ∈ addKey acc p ↔ q ∈ acc ∨ q = p := by
  unfold addKey
  split
  · constructor
    · exact .inl
    · rintro (h | rfl)
      · exact h
      · assumption
  · simp
theorem mem_keysOf {xs : List α} {p : Pt} : p ∈ keysOf key xs ↔ ∃ x ∈ xs, key x = p := by
  have : ∀ (xs : List α) (acc : List Pt), p ∈ xs.foldl (fun acc x => addKey acc (key x)) acc ↔ p ∈ acc ∨ ∃ x ∈ xs, key x = p := by
    intro xs
    induction xs with
    | nil => simp
    | cons x xs ih =>
      intro acc
      rw [List.foldl_cons, ih, mem_addKey]
      constructor
      · rintro ((h | rfl) | ⟨y, hy, h⟩)
        · exact .inl h
        · exact .inr ⟨x, by simp, rfl⟩
        · exact .inr ⟨y, by simp [hy], h⟩
      · rintro (h | ⟨y, hy, h⟩)
        · exact .inl (.inl h)
        · rcases List.mem_cons.1 hy with rfl | hy
          · exact .inl (.inr h.symm)
          · exact .inr ⟨y, hy, h⟩
  rw [keysOf, this]
  simp
theorem nodup_addKey {acc : List Pt} {p : Pt} (h : acc.Nodup) : (addKey acc p).Nodup := by
  unfold addKey
  split
  · exact h
  · rename_i hp
    rw [List.nodup_append]
    refine ⟨h, by simp, fun a ha b hb => ?_⟩
    simp at hb
    subst hb
    rintro rfl
    exact hp ha
theorem nodup_keysOf (xs : List α) : (keysOf key xs).Nodup := by
  have : ∀ (xs : List α) (acc : List Pt), acc.Nodup → (xs.foldl (fun acc x => addKey acc (key x)) acc).Nodup := by
    intro xs
    induction xs with
    | nil => exact fun _ h => h
    | cons x xs ih => exact fun acc h => ih _ (nodup_addKey h)
  exact this xs [] List.nodup_nil
theorem keysOf_length (xs : List α) : (keysOf key xs).length ≤ xs.length := by
  have : ∀ (xs : List α) (acc : List Pt), (xs.foldl (fun acc x => addKey acc (key x)) acc).length ≤ acc.length + xs.length := by
    intro xs
    induction xs with
    | nil => simp
    | cons x xs ih =>
      intro acc
      rw [List.foldl_cons]
      refine Nat.le_trans (ih _) ?_
      have : (addKey acc (key x)).length ≤ acc.length + 1 := by
        unfold addKey
        split <;> simp
      simp only [List.length_cons]
      omega
  have h := this xs []
  rw [List.length_nil, Nat.zero_add] at h
  exact h
theorem grp_snoc (xs : List α) (x : α) (p : Pt) : grp key (xs ++ [x]) p = if p = key x then grp key xs p ++ [x] else grp key xs p := by
  unfold grp
  rw [List.filter_append]
  by_cases h : p = key x
  · subst h; simp
  · rw [if_neg h]
    have : key x ≠ p := fun e => h e.symm
    simp [this]
theorem grp_nil {xs : List α} {p : Pt} : grp key xs p = [] ↔ p ∉ keysOf key xs := by
  unfold grp
  rw [List.filter_eq_nil_iff, mem_keysOf]
  simp
theorem grp_length (xs : List α) (p : Pt) : (grp key xs p).length ≤ xs.length := List.length_filter_le _ _
end

/-- Each point's value is a slice of the call's own that holds the point's group; no two in one block. -/
def Gps {α : Type} (enc : α → List Value) (k : Nat) (e : TypeId) (w : World) (base : Nat) (m : Pt → Value) (G : Pt → List α) : Prop :=
  (∀ p, Own enc k e w base (m p) (G p).length (G p)) ∧ (∀ p q g, p ≠ q → (m p).ownBlock = some g → (m q).ownBlock ≠ some g) ∧ ∀ p, G p = [] → m p = .slice none 0 0
section
variable {α : Type} {enc : α → List Value} {k : Nat} {e : TypeId} {w w' : World} {base : Nat} {m : Pt → Value} {G : Pt → List α}
theorem Gps.nil : Gps enc k e w base (fun _ => .slice none 0 0) (fun _ => ([] : List α)) := ⟨fun _ => Own.nil, fun _ _ _ _ h => (nomatch h), fun _ _ => rfl⟩
theorem Gps.step {row : Option Nat} (h : Gps enc k e w base m G) (hg : w.grownBy w' row) (hr : ∀ r, row = some r → r < base ∨ ∀ cs, w.heap[r]? ≠ some (.cells cs e (0, 0))) : Gps enc k e w' base m G :=
  ⟨fun p => (h.1 p).step hg hr, h.2⟩
theorem Gps.below {B : Nat} (h : Gps enc k e w base m G) (hb : Below B w w') (hB : w.heap.size ≤ B) : Gps enc k e w' base m G := ⟨fun p => (h.1 p).below hb hB, h.2⟩
theorem Gps.alloc (h : Gps enc k e w base m G) (o : Obj) : Gps enc k e (w.alloc o) base m G := ⟨fun p => (h.1 p).alloc o, h.2⟩
theorem Gps.append (h : Gps enc k e w base m G) (p : Pt) (x : α) {v' : Value} {n g : Nat} (hg : w.grownBy w' (m p).ownBlock) (hv : Own enc k e w' base v' n (G p ++ [x])) (hb : v'.ownBlock = some g) (hat : (m p).ownBlock = some g ∨ g = w.heap.size) :
    Gps enc k e w' base (fun q => if q = p then v' else m q) (fun q => if q = p then G p ++ [x] else G q) := by
  have hlt : ∀ q g', (m q).ownBlock = some g' → g' < w.heap.size := fun q g' hq => ((h.1 q).blk g' hq).2
  refine ⟨fun q => ?_, fun q r g' hne hq hr => ?_, fun q hq => ?_⟩
  · by_cases hqp : q = p
    · subst hqp
      simp only [if_pos rfl]
      have := hv.1
      subst this
      exact hv
    · simp only [if_neg hqp]
      refine (h.1 q).kept hg ?_
      cases hm : (m q).ownBlock with
      | none => exact .inl rfl
      | some g' =>
        refine .inr fun e' => ?_
        exact h.2.1 q p g' hqp hm e'.symm
  · have hcase : ∀ q r, q ≠ r → q = p → v'.ownBlock = some g' → (m r).ownBlock = some g' → False := by
      clear hne hq hr
      intro q r hne hqp hq hr
      subst hqp
      rw [hb] at hq
      cases hq
      rcases hat with hat | hat
      · exact h.2.1 q r g hne hat hr
      · have := hlt r g hr; omega
    by_cases hqp : q = p
    · by_cases hrp : r = p
      · exact hne (hqp.trans hrp.symm)
      · simp only [if_pos hqp] at hq
        simp only [if_neg hrp] at hr
        exact hcase q r hne hqp hq hr
    · simp only [if_neg hqp] at hq
      by_cases hrp : r = p
      · simp only [if_pos hrp] at hr
        exact hcase r q (Ne.symm hne) hrp hr hq
      · simp only [if_neg hrp] at hr
        exact h.2.1 q r g' hne hq hr
  · by_cases hqp : q = p
    · simp only [if_pos hqp] at hq
      simp at hq
    · simp only [if_neg hqp] at hq ⊢
      exact h.2.2 q hq
end
end Go.Proofs.Ytgndbpkgehjelaa
