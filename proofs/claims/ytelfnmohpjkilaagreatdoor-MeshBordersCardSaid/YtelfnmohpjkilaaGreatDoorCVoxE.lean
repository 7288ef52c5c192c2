/- Layer 4, plain: the surface of a set of cubes has no border and no flat triangles. No program. -/
import Derived.Test.YtelfnmohpjkilaaGreatDoorCB4
import Derived.Test.YtelfnmohpjkilaaGreatDoorCB21
namespace Go.Proofs.YtelfnmohpjkilaaGreatDoor
open Go.RowKit Go.Sort
def sideG (n f : Nat) : List Tri := sideP (cor8 (voxC (0, 0, 0) 1 n) 1) f
/-- The other side of a direction. -/
def oppV (f : Nat) : Nat := if f % 2 = 0 then f + 1 else f - 1
def memE (e : Ed) (l : List Ed) : Bool := l.any fun x => decide (x = e)
theorem memE_iff {e : Ed} {l : List Ed} : memE e l = true ↔ e ∈ l := by unfold memE; rw [List.any_eq_true]; simp
def edgeOK (n f : Nat) (e : Ed) (g : Nat) : Bool := memE (swapE e) (edgesP (sideG n g)) && (match nbrV n g with
  | none => true
  | some m => memE (swapE e) (edgesP (sideG m f)) && (match nbrV m f with
    | none => true
    | some k => memE (swapE e) (edgesP (sideG k (oppV g))) && (decide (k < 27) && (decide (oppV g < 6) && (match nbrV n f with
      | none => false
      | some j => decide (nbrV k (oppV g) = some j))))) && decide (m < 27))
def sideOK (n f : Nat) : Bool := (edgesP (sideG n f)).all fun e => memE (swapE e) (edgesP (sideG n f)) || (List.range 6).any (edgeOK n f e)
theorem sides_ok : ((List.range 27).all fun n => (List.range 6).all fun f => sideOK n f) = true := by decide +kernel
theorem mem_voxP {b : Nat → Bool} {o : Pt} {s : Int} {n f : Nat} (hn : n < 27) (hf : f < 6) (hb : b n = true) (ho : openV b n f = true) {t : Tri} (ht : t ∈ sideP (cor8 (voxC o s n) s) f) : t ∈ voxP b o s := by
  unfold voxP voxL
  refine List.mem_flatMap.2 ⟨n, List.mem_range.2 hn, ?_⟩
  unfold voxM
  rw [if_pos hb]
  exact List.mem_flatMap.2 ⟨f, List.mem_range.2 hf, by rw [if_pos ho]; exact ht⟩
theorem edge_voxP {b : Nat → Bool} {n f : Nat} (hn : n < 27) (hf : f < 6) (hb : b n = true) (ho : openV b n f = true) {e : Ed} (he : e ∈ edgesP (sideG n f)) : e ∈ edgesP (voxP b (0, 0, 0) 1) := by
  obtain ⟨t, ht, hu⟩ := List.mem_flatMap.1 he
  exact List.mem_flatMap.2 ⟨t, mem_voxP hn hf hb ho ht, hu⟩
theorem vox_closed0 (b : Nat → Bool) : ∀ e ∈ edgesP (voxP b (0, 0, 0) 1), swapE e ∈ edgesP (voxP b (0, 0, 0) 1) := by
  intro e he
  obtain ⟨t, ht, hu⟩ := List.mem_flatMap.1 he
  obtain ⟨n, f, hn, hf, hb, ho, hs⟩ := mem_vox ht
  have hE : e ∈ edgesP (sideG n f) := List.mem_flatMap.2 ⟨t, hs, hu⟩
  have hok : sideOK n f = true := List.all_eq_true.1 (List.all_eq_true.1 sides_ok n (List.mem_range.2 hn)) f (List.mem_range.2 hf)
  have h1 := List.all_eq_true.1 hok e hE
  rw [Bool.or_eq_true, memE_iff] at h1
  rcases h1 with h1 | h1
  · exact edge_voxP hn hf hb ho h1
  · obtain ⟨g, hg, h2⟩ := List.any_eq_true.1 h1
    rw [List.mem_range] at hg
    unfold edgeOK at h2
    rw [Bool.and_eq_true, memE_iff] at h2
    obtain ⟨h3, h4⟩ := h2
    cases hm : nbrV n g with
    | none => exact edge_voxP hn hg hb (by unfold openV; rw [hm]) h3
    | some m =>
      rw [hm] at h4
      simp only [Bool.and_eq_true, memE_iff, decide_eq_true_eq] at h4
      obtain ⟨⟨h5, h6⟩, hm27⟩ := h4
      cases hbm : b m with
      | false => exact edge_voxP hn hg hb (by unfold openV; rw [hm]; simp [hbm]) h3
      | true =>
        cases hk : nbrV m f with
        | none => exact edge_voxP hm27 hf hbm (by unfold openV; rw [hk]) h5
        | some k =>
          rw [hk] at h6
          simp only [Bool.and_eq_true, memE_iff, decide_eq_true_eq] at h6
          obtain ⟨h7, hk27, hg6, h8⟩ := h6
          cases hbk : b k with
          | false => exact edge_voxP hm27 hf hbm (by unfold openV; rw [hk]; simp [hbk]) h5
          | true =>
            cases hj : nbrV n f with
            | none => rw [hj] at h8; cases h8
            | some j =>
              rw [hj] at h8
              have h8 := of_decide_eq_true h8
              have hbj : b j = false := by unfold openV at ho; rw [hj] at ho; simpa using ho
              exact edge_voxP hk27 hg6 hbk (by unfold openV; rw [h8]; simp [hbj]) h7
/-! Placed anywhere. -/
def plcP (o : Pt) (s : Int) (p : Pt) : Pt := (o.1 + p.1 * s, o.2.1 + p.2.1 * s, o.2.2 + p.2.2 * s)
def plcT (o : Pt) (s : Int) (t : Tri) : Tri := (plcP o s t.1, plcP o s t.2.1, plcP o s t.2.2)
def plcE (o : Pt) (s : Int) (e : Ed) : Ed := (plcP o s e.1, plcP o s e.2)
theorem plc_cor (o : Pt) (s : Int) (n m : Nat) : cor8 (voxC o s n) s m = plcP o s (cor8 (voxC (0, 0, 0) 1 n) 1 m) := by
  simp only [cor8, voxC, plcP, Prod.mk.injEq]
  refine ⟨?_, ?_, ?_⟩ <;> grind
theorem plc_side (o : Pt) (s : Int) (n f : Nat) : sideP (cor8 (voxC o s n) s) f = (sideG n f).map (plcT o s) := by
  rw [show cor8 (voxC o s n) s = fun m => plcP o s (cor8 (voxC (0, 0, 0) 1 n) 1 m) from funext fun m => plc_cor o s n m]
  unfold sideG sideP
  split <;> rfl
theorem plc_vox (b : Nat → Bool) (o : Pt) (s : Int) : voxP b o s = (voxP b (0, 0, 0) 1).map (plcT o s) := by
  unfold voxP voxL
  rw [List.map_flatMap]
  congr 1
  funext n
  unfold voxM
  split
  · unfold voxN
    rw [List.map_flatMap]
    congr 1
    funext f
    split
    · exact plc_side o s n f
    · rfl
  · rfl
theorem plc_edges (o : Pt) (s : Int) (l : List Tri) : edgesP (l.map (plcT o s)) = (edgesP l).map (plcE o s) := by
  unfold edgesP
  induction l with
  | nil => rfl
  | cons t l ih => rw [List.map_cons, List.flatMap_cons, List.flatMap_cons, List.map_append, ← ih]; rfl
theorem vox_closed (b : Nat → Bool) (o : Pt) (s : Int) : ∀ e ∈ edgesP (voxP b o s), swapE e ∈ edgesP (voxP b o s) := by
  rw [plc_vox, plc_edges]
  intro e he
  obtain ⟨x, hx, rfl⟩ := List.mem_map.1 he
  exact List.mem_map.2 ⟨swapE x, vox_closed0 b x hx, rfl⟩
theorem vox_border (b : Nat → Bool) (o : Pt) (s : Int) : borderP (voxP b o s) = [] := by
  refine List.eq_nil_iff_forall_not_mem.2 fun e he => ?_
  obtain ⟨h1, h2⟩ := ((border_both _).2 e).1 he
  exact h2 (vox_closed b o s e h1)
theorem plcP_inj {o : Pt} {s : Int} (hs : s ≠ 0) {p q : Pt} (h : plcP o s p = plcP o s q) : p = q := by
  have key : ∀ a x y : Int, a + x * s = a + y * s → x = y := fun a x y h => by
    have : (x - y) * s = 0 := by rw [Int.sub_mul]; omega
    rcases Int.mul_eq_zero.1 this with h | h
    · omega
    · exact absurd h hs
  obtain ⟨p1, p2, p3⟩ := p
  obtain ⟨q1, q2, q3⟩ := q
  simp only [plcP, Prod.mk.injEq] at h
  rw [key _ _ _ h.1, key _ _ _ h.2.1, key _ _ _ h.2.2]
theorem sides_dist : ((List.range 27).all fun n => (List.range 6).all fun f => (sideG n f).all fun t => !flatT t) = true := by decide +kernel
theorem vox_flat (b : Nat → Bool) (o : Pt) {s : Int} (hs : s ≠ 0) : (voxP b o s).any flatT = false := by
  rw [plc_vox, List.any_map]
  refine Bool.eq_false_iff.2 fun h => ?_
  obtain ⟨t, ht, hf⟩ := List.any_eq_true.1 h
  obtain ⟨n, f, hn, hf6, _, _, hu⟩ := mem_vox ht
  have h1 := List.all_eq_true.1 (List.all_eq_true.1 (List.all_eq_true.1 sides_dist n (List.mem_range.2 hn)) f (List.mem_range.2 hf6)) t hu
  have h2 : flatT t = true := by
    unfold flatT at h1 ⊢
    have hf : flatT (plcT o s t) = true := hf
    unfold flatT at hf
    simp only [Bool.or_eq_true, decide_eq_true_eq] at hf ⊢
    rcases hf with (h | h) | h
    · exact .inl (.inl (plcP_inj hs h))
    · exact .inl (.inr (plcP_inj hs h))
    · exact .inr (plcP_inj hs h)
  rw [h2] at h1; cases h1
theorem vox_check (b : Nat → Bool) (o : Pt) {s : Int} (hs : s ≠ 0) : checkP (voxP b o s) false = 0 ∨ checkP (voxP b o s) false = 21 ∨ checkP (voxP b o s) false = 23 := by
  rw [check_is, vox_flat b o hs, vox_border]
  rw [if_neg (by simp)]
  split
  · exact .inr (.inl rfl)
  · rw [if_neg (by simp)]
    split
    · exact .inr (.inr rfl)
    · exact .inl rfl
theorem vox_range {o : Pt} {s : Int} {B : Int} (hs0 : 0 ≤ s) (h1 : -B ≤ o.1 ∧ o.1 + 3 * s ≤ B) (h2 : -B ≤ o.2.1 ∧ o.2.1 + 3 * s ≤ B) (h3 : -B ≤ o.2.2 ∧ o.2.2 + 3 * s ≤ B) {n : Nat} (hn : n < 27) {m : Nat} (hm : m < 8) :
    (-B ≤ (cor8 (voxC o s n) s m).1 ∧ (cor8 (voxC o s n) s m).1 ≤ B) ∧ (-B ≤ (cor8 (voxC o s n) s m).2.1 ∧ (cor8 (voxC o s n) s m).2.1 ≤ B) ∧ (-B ≤ (cor8 (voxC o s n) s m).2.2 ∧ (cor8 (voxC o s n) s m).2.2 ≤ B) := by
  have key : ∀ (a : Int) (i j : Nat), i ≤ 2 → j ≤ 1 → -B ≤ a → a + 3 * s ≤ B → -B ≤ a + (i : Int) * s + (j : Int) * s ∧ a + (i : Int) * s + (j : Int) * s ≤ B := fun a i j hi hj h1 h2 => by
    have h3 : i = 0 ∨ i = 1 ∨ i = 2 := by omega
    have h4 : j = 0 ∨ j = 1 := by omega
    rcases h3 with rfl | rfl | rfl <;> rcases h4 with rfl | rfl <;> constructor <;> simp <;> omega
  exact ⟨key _ _ _ (by omega) (by omega) h1.1 h1.2, key _ _ _ (by omega) (by omega) h2.1 h2.2, key _ _ _ (by omega) (by omega) h3.1 h3.2⟩
end Go.Proofs.YtelfnmohpjkilaaGreatDoor
