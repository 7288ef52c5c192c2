/- Plain laws for ClusterCovers: the pieces, one by one. -/
import Derived.Test.YtgndbpkgehjelaaCB26
namespace Go.Proofs.Ytgndbpkgehjelaa
open Go.RowKit
/-- The block of a piece. -/
def blkOf (b : Int) (x : List Tri) : Pt := blockP (x.take 1) b false
theorem finest_piece {b most : Int} {ts : List Tri} {x : List Tri} (hx : x ∈ finestT b most ts) : (∀ t ∈ x, keyF b t = blkOf b x) ∧ 0 < x.length ∧ x.length ≤ (max most 1).toNat := by
  obtain ⟨p, hp, hx⟩ := List.mem_flatMap.1 hx
  have h := piece_key hx
  have hb : blkOf b x = p := take_one_key h
  refine ⟨fun t ht => by rw [hb]; exact h.1 t ht, List.length_pos_iff.2 h.2, ?_⟩
  obtain ⟨k, _, rfl⟩ := List.mem_map.1 hx
  rw [pieceT_length]; omega
/-- The blocks of the pieces come in order. -/
theorem finest_sorted (b most : Int) (ts : List Tri) : ((finestT b most ts).map (blkOf b)).Pairwise (fun p q => leO ltP p q = true) := by
  have hs : (keysO ltP (keyF b) ts).Pairwise (fun p q => leO ltP p q = true) := tot_P.sorted _
  show (((keysO ltP (keyF b) ts).flatMap fun p => splitT most (grp (keyF b) ts p)).map (blkOf b)).Pairwise _
  revert hs
  generalize keysO ltP (keyF b) ts = K
  intro hs
  have hm : ∀ p, ∀ q ∈ (splitT most (grp (keyF b) ts p)).map (blkOf b), q = p := fun p q hq => by
    obtain ⟨x, hx, rfl⟩ := List.mem_map.1 hq
    exact take_one_key (piece_key hx)
  have hle : ∀ p, leO ltP p p = true := fun p => by simp [leO, tot_P.irr]
  induction K with
  | nil => exact .nil
  | cons p K ih =>
    obtain ⟨h1, h2⟩ := List.pairwise_cons.1 hs
    rw [List.flatMap_cons, List.map_append]
    refine List.pairwise_append.2 ⟨?_, ih h2, fun a ha c hc => ?_⟩
    · exact List.pairwise_iff_getElem.2 fun i j hi hj _ => by
        rw [hm p _ (List.getElem_mem hi), hm p _ (List.getElem_mem hj)]
        exact hle p
    · rw [hm p a ha]
      rw [List.map_flatMap] at hc
      obtain ⟨q, hq, hc⟩ := List.mem_flatMap.1 hc
      rw [hm q c hc]
      exact h1 q hq
theorem finest_next {b most : Int} {ts : List Tri} {k : Nat} {x y : List Tri} (hx : (finestT b most ts)[k]? = some x) (hy : (finestT b most ts)[k + 1]? = some y) : ltP (blkOf b y) (blkOf b x) = false := by
  have h := finest_sorted b most ts
  obtain ⟨h1, e1⟩ := List.getElem?_eq_some_iff.1 hx
  obtain ⟨h2, e2⟩ := List.getElem?_eq_some_iff.1 hy
  have := List.pairwise_iff_getElem.1 h k (k + 1) (by simpa using h1) (by simpa using h2) (by omega)
  simp only [List.getElem_map, e1, e2, leO] at this
  simpa using this
/-- What 'not below' says of the coordinates. -/
theorem not_ltP {p q : Pt} (h : ltP p q = false) : ¬ p.1 < q.1 ∧ (p.1 = q.1 → ¬ p.2.1 < q.2.1) ∧ (p.1 = q.1 → p.2.1 = q.2.1 → ¬ p.2.2 < q.2.2) := by
  unfold ltP at h
  split at h
  · rename_i h1
    simp only [decide_eq_false_iff_not] at h
    exact ⟨h, fun e => absurd e h1, fun e => absurd e h1⟩
  · rename_i h1
    have e1 : p.1 = q.1 := Decidable.not_not.1 h1
    split at h
    · rename_i h2
      simp only [decide_eq_false_iff_not] at h
      exact ⟨by omega, fun _ => h, fun _ e => absurd e h2⟩
    · rename_i h2
      have e2 : p.2.1 = q.2.1 := Decidable.not_not.1 h2
      simp only [decide_eq_false_iff_not] at h
      exact ⟨by omega, fun _ => by omega, fun _ _ => h⟩
end Go.Proofs.Ytgndbpkgehjelaa
