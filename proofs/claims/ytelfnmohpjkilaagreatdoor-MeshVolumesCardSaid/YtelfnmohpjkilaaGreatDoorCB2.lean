/- Joined texts: SortLaw. -/
import Derived.WalkKit
/- Plain laws: the one ordered permutation of a list; merging; insertion. No dump is named. -/
namespace Go.Proofs.YtelfnmohpjkilaaGreatDoor
section
variable {α : Type} {lt : α → α → Bool}
/-- Strict total order, as three facts. -/
structure Tot (lt : α → α → Bool) : Prop where
  irr : ∀ x, lt x x = false
  tr : ∀ x y z, lt x y = true → lt y z = true → lt x z = true
  tot : ∀ x y, lt x y = false → lt y x = false → x = y
def leO (lt : α → α → Bool) (x y : α) : Bool := !lt y x
theorem Tot.le_trans (h : Tot lt) (a b c : α) (hab : leO lt a b = true) (hbc : leO lt b c = true) : leO lt a c = true := by
  unfold leO at *
  simp only [Bool.not_eq_true'] at *
  cases hca : lt c a with
  | false => rfl
  | true =>
    cases hba : lt a b with
    | true => have := h.tr _ _ _ hca hba; rw [hbc] at this; cases this
    | false =>
      have e := h.tot _ _ hba hab
      subst e
      rw [hca] at hbc; cases hbc
theorem Tot.le_total (h : Tot lt) (a b : α) : (leO lt a b || leO lt b a) = true := by
  unfold leO
  cases hab : lt a b with
  | false => simp
  | true =>
    cases hba : lt b a with
    | false => simp
    | true => have := h.tr _ _ _ hab hba; rw [h.irr] at this; cases this
def sortO (lt : α → α → Bool) (l : List α) : List α := l.mergeSort (leO lt)
theorem sortO_perm (l : List α) : List.Perm (sortO lt l) l := List.mergeSort_perm _ _
theorem Tot.sorted (h : Tot lt) (l : List α) : (sortO lt l).Pairwise (fun a b => leO lt a b = true) := List.pairwise_mergeSort h.le_trans h.le_total l
theorem Tot.anti (h : Tot lt) (a b : α) (h1 : leO lt a b = true) (h2 : leO lt b a = true) : a = b := by
  unfold leO at h1 h2
  exact h.tot _ _ (by simpa using h2) (by simpa using h1)
/-- The one ordered permutation. -/
theorem Tot.uniq (h : Tot lt) {l l' : List α} (hp : l'.Perm l) (hs : l'.Pairwise (fun a b => leO lt a b = true)) : l' = sortO lt l :=
  List.Perm.eq_of_pairwise (le := fun a b => leO lt a b = true) (fun a b _ _ h1 h2 => h.anti a b h1 h2) hs (h.sorted l) (hp.trans (sortO_perm l).symm)
theorem Tot.sort_perm (h : Tot lt) {l l' : List α} (hp : l'.Perm l) : sortO lt l' = sortO lt l := h.uniq ((sortO_perm l').trans hp) (h.sorted l')
theorem Tot.sort_id (h : Tot lt) {l : List α} (hs : l.Pairwise (fun a b => leO lt a b = true)) : sortO lt l = l := (h.uniq (.refl _) hs).symm
theorem Tot.merge (h : Tot lt) (a b : List α) : List.merge (sortO lt a) (sortO lt b) (leO lt) = sortO lt (a ++ b) :=
  h.uniq ((List.merge_perm_append (le := leO lt)).trans ((sortO_perm a).append (sortO_perm b))) (List.pairwise_merge h.le_trans h.le_total _ _ (h.sorted a) (h.sorted b))
theorem Tot.halves (h : Tot lt) (l : List α) (n : Nat) : List.merge (sortO lt (l.take n)) (sortO lt (l.drop n)) (leO lt) = sortO lt l := by
  rw [h.merge, List.take_append_drop]
theorem sortO_length (l : List α) : (sortO lt l).length = l.length := (sortO_perm l).length_eq
theorem sortO_mem {l : List α} {x : α} : x ∈ sortO lt l ↔ x ∈ l := (sortO_perm l).mem_iff
theorem sortO_short {l : List α} (h : l.length < 2) : sortO lt l = l := by
  match l, h with
  | [], _ => simp [sortO]
  | [a], _ => simp [sortO]
theorem merge_nil_right (le : α → α → Bool) (l : List α) : List.merge l [] le = l := by cases l <;> simp
/-- One step of Go's merge: the right one's head goes first. -/
theorem merge_right {a b : List α} {x y : α} {i j : Nat} (hx : a[i]? = some x) (hy : b[j]? = some y) (hl : lt y x = true) : List.merge (a.drop i) (b.drop j) (leO lt) = y :: List.merge (a.drop i) (b.drop (j + 1)) (leO lt) := by
  obtain ⟨hi, ex⟩ := List.getElem?_eq_some_iff.1 hx
  obtain ⟨hj, ey⟩ := List.getElem?_eq_some_iff.1 hy
  rw [List.drop_eq_getElem_cons hi, List.drop_eq_getElem_cons hj, ex, ey, List.cons_merge_cons, if_neg (by simp [leO, hl])]
theorem merge_left {a b : List α} {x : α} {i j : Nat} (hx : a[i]? = some x) (hl : ∀ y, b[j]? = some y → lt y x = false) : List.merge (a.drop i) (b.drop j) (leO lt) = x :: List.merge (a.drop (i + 1)) (b.drop j) (leO lt) := by
  obtain ⟨hi, ex⟩ := List.getElem?_eq_some_iff.1 hx
  rw [List.drop_eq_getElem_cons hi, ex]
  rcases Nat.lt_or_ge j b.length with hj | hj
  · have hy : b[j]? = some b[j] := List.getElem?_eq_getElem hj
    rw [List.drop_eq_getElem_cons hj, List.cons_merge_cons, if_pos (by simp [leO, hl _ hy])]
  · rw [List.drop_eq_nil_of_le hj, merge_nil_right, merge_nil_right]
theorem merge_end {a b : List α} {i j : Nat} (hi : a.length ≤ i) : List.merge (a.drop i) (b.drop j) (leO lt) = b.drop j := by
  rw [List.drop_eq_nil_of_le hi, List.nil_merge]
/-- An insertion at its place. -/
theorem Tot.insert (h : Tot lt) {l : List α} {p : α} {i : Nat} (hs : l.Pairwise (fun a b => leO lt a b = true)) (hlo : ∀ j x, j < i → l[j]? = some x → lt x p = true) (hhi : ∀ x, l[i]? = some x → lt x p = false) : l.take i ++ p :: l.drop i = sortO lt (l ++ [p]) := by
  refine h.uniq ?_ ?_
  · refine List.perm_middle.trans ?_
    rw [List.take_append_drop]
    exact (List.perm_append_singleton p l).symm
  · have hle : ∀ x, lt x p = true → leO lt x p = true := fun x hx => by
      unfold leO
      cases hpx : lt p x with
      | false => rfl
      | true => have := h.tr _ _ _ hx hpx; rw [h.irr] at this; cases this
    have hup : ∀ b ∈ l.drop i, leO lt p b = true := fun b hb => by
      obtain ⟨k, hk⟩ := List.mem_iff_getElem?.1 hb
      rw [List.getElem?_drop] at hk
      obtain ⟨hlt, ek⟩ := List.getElem?_eq_some_iff.1 hk
      have hi : i < l.length := by omega
      have h0 : leO lt p l[i] = true := by
        unfold leO; rw [hhi _ (List.getElem?_eq_getElem hi)]; rfl
      rcases Nat.eq_zero_or_pos k with rfl | hk0
      · simp only [Nat.add_zero] at ek; rw [← ek]; exact h0
      · have := List.pairwise_iff_getElem.1 hs i (i + k) hi hlt (by omega)
        rw [ek] at this
        exact h.le_trans _ _ _ h0 this
    have hdn : ∀ a ∈ l.take i, lt a p = true := fun a ha => by
      obtain ⟨k, hk⟩ := List.mem_iff_getElem?.1 ha
      rw [List.getElem?_take] at hk
      split at hk
      · exact hlo k a (by omega) hk
      · cases hk
    refine List.pairwise_append.2 ⟨hs.sublist (List.take_sublist _ _), List.pairwise_cons.2 ⟨hup, hs.sublist (List.drop_sublist _ _)⟩, fun a ha b hb => ?_⟩
    rcases List.mem_cons.1 hb with rfl | hb
    · exact hle _ (hdn a ha)
    · exact h.le_trans _ _ _ (hle _ (hdn a ha)) (hup b hb)
/-- p is nowhere in an ordered list whose place for it bears another. -/
theorem Tot.notin (h : Tot lt) {l : List α} {p : α} {i : Nat} (hs : l.Pairwise (fun a b => leO lt a b = true)) (hlo : ∀ j x, j < i → l[j]? = some x → lt x p = true) (hhi : ∀ x, l[i]? = some x → lt x p = false ∧ x ≠ p) : p ∉ l := by
  intro hm
  obtain ⟨k, hk⟩ := List.mem_iff_getElem?.1 hm
  obtain ⟨hlt, ek⟩ := List.getElem?_eq_some_iff.1 hk
  rcases Nat.lt_trichotomy k i with hki | rfl | hki
  · have := hlo k p hki hk
    rw [h.irr] at this; cases this
  · exact (hhi p hk).2 rfl
  · have hi : i < l.length := by omega
    have h0 := hhi _ (List.getElem?_eq_getElem hi)
    have h1 := List.pairwise_iff_getElem.1 hs i k hi hlt hki
    rw [ek] at h1
    unfold leO at h1
    exact h0.2 (h.tot _ _ h0.1 (by simpa using h1))
end
end Go.Proofs.YtelfnmohpjkilaaGreatDoor
