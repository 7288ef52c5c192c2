/- Layer 8, plain: small fields laid into a greater grid: moved, and side by side. No program. -/
import Derived.Test.YtfljcgehhnmamaaCB23
import Derived.Test.YtfljcgehhnmamaaCTurnL
namespace Go.Proofs.Ytfljcgehhnmamaa
open Go.RowKit
def orF (G : List Bool) (i : Nat) (b : Bool) : List Bool := G.set i (G.getD i false || b)
theorem orF_length (G : List Bool) (i : Nat) (b : Bool) : (orF G i b).length = G.length := by simp [orF]
theorem orF_get {G : List Bool} {i : Nat} (hi : i < G.length) (b : Bool) (j : Nat) : (orF G i b).getD j false = (G.getD j false || (decide (j = i) && b)) := by
  unfold orF
  rw [List.getD_eq_getElem?_getD]
  by_cases h : j = i
  · subst h
    rw [List.getElem?_set_self hi]
    simp
  · rw [List.getElem?_set_ne (fun e => h e.symm), ← List.getD_eq_getElem?_getD]
    simp [h]
theorem orF_true (G : List Bool) (i : Nat) : orF G i true = G.set i true := by simp [orF]
theorem orF_false {G : List Bool} {i : Nat} (hi : i < G.length) : orF G i false = G := by
  unfold orF
  rw [Bool.or_false, List.getD_eq_getElem?_getD, List.getElem?_eq_getElem hi]
  simp
/-- Where vertex k of 5 in each direction lies among 9, moved by o. -/
def idx9 (o : Nat × Nat × Nat) (k : Nat) : Nat := ((k / 25 + o.2.2) * 9 + (k / 5 % 5 + o.2.1)) * 9 + (k % 5 + o.1)
def smallO (o : Nat × Nat × Nat) : Prop := o.1 ≤ 4 ∧ o.2.1 ≤ 4 ∧ o.2.2 ≤ 4
theorem idx9_lt {o : Nat × Nat × Nat} (ho : smallO o) {k : Nat} (hk : k < 125) : idx9 o k < 729 := by
  unfold idx9
  obtain ⟨h1, h2, h3⟩ := ho
  omega
def placeF (S : List Bool) (o : Nat × Nat × Nat) : Nat → List Bool
  | 0 => List.replicate 729 false
  | k + 1 => orF (placeF S o k) (idx9 o k) (S.getD k false)
def bothF (S T : List Bool) (o q : Nat × Nat × Nat) : Nat → List Bool
  | 0 => List.replicate 729 false
  | k + 1 => orF (orF (bothF S T o q k) (idx9 o k) (S.getD k false)) (idx9 q k) (T.getD k false)
theorem placeF_length (S : List Bool) (o : Nat × Nat × Nat) (k : Nat) : (placeF S o k).length = 729 := by
  induction k with
  | zero => exact List.length_replicate
  | succ k ih => rw [placeF, orF_length, ih]
theorem bothF_length (S T : List Bool) (o q : Nat × Nat × Nat) (k : Nat) : (bothF S T o q k).length = 729 := by
  induction k with
  | zero => exact List.length_replicate
  | succ k ih => rw [bothF, orF_length, orF_length, ih]
theorem none_get (n j : Nat) : (List.replicate n false).getD j false = false := by
  rw [List.getD_eq_getElem?_getD, List.getElem?_replicate]
  split <;> rfl
theorem bothF_get {S T : List Bool} {o q : Nat × Nat × Nat} (ho : smallO o) (hq : smallO q) : ∀ k, k ≤ 125 → ∀ j, (bothF S T o q k).getD j false = ((placeF S o k).getD j false || (placeF T q k).getD j false)
  | 0, _, j => by rw [bothF, placeF, placeF, none_get]; rfl
  | k + 1, hk, j => by
    have ih := bothF_get (S := S) (T := T) ho hq k (by omega) j
    rw [bothF, placeF, placeF, orF_get (by rw [orF_length, bothF_length]; exact idx9_lt hq (by omega)), orF_get (by rw [bothF_length]; exact idx9_lt ho (by omega)), orF_get (by rw [placeF_length]; exact idx9_lt ho (by omega)), orF_get (by rw [placeF_length]; exact idx9_lt hq (by omega)), ih]
    cases (placeF S o k).getD j false <;> cases (placeF T q k).getD j false <;> cases (decide (j = idx9 o k) && S.getD k false) <;> rfl
theorem placeF_get {S : List Bool} {o : Nat × Nat × Nat} (ho : smallO o) : ∀ k, k ≤ 125 → ∀ j, (placeF S o k).getD j false = true ↔ ∃ m, m < k ∧ j = idx9 o m ∧ S.getD m false = true
  | 0, _, j => by
    rw [placeF, none_get]
    constructor
    · intro h; cases h
    · rintro ⟨m, hm, _⟩; omega
  | k + 1, hk, j => by
    have ih := placeF_get (S := S) ho k (by omega) j
    rw [placeF, orF_get (by rw [placeF_length]; exact idx9_lt ho (by omega)), Bool.or_eq_true, ih, Bool.and_eq_true, decide_eq_true_eq]
    constructor
    · rintro (⟨m, h1, h2⟩ | ⟨h1, h2⟩)
      · exact ⟨m, by omega, h2⟩
      · exact ⟨k, by omega, h1, h2⟩
    · rintro ⟨m, h1, h2⟩
      by_cases h : m = k
      · subst h; exact .inr h2
      · exact .inl ⟨m, by omega, h2⟩
/-- The vertex x, y, z of the greater grid. -/
def V9 (G : List Bool) (x y z : Nat) : Bool := G.getD ((z * 9 + y) * 9 + x) false
def V5 (S : List Bool) (x y z : Nat) : Bool := S.getD ((z * 5 + y) * 5 + x) false
theorem placeF_at {S : List Bool} {o : Nat × Nat × Nat} (ho : smallO o) {x y z : Nat} (hx : x < 9) (hy : y < 9) (_hz : z < 9) :
    V9 (placeF S o 125) x y z = true ↔ ∃ p q r, p < 5 ∧ q < 5 ∧ r < 5 ∧ x = p + o.1 ∧ y = q + o.2.1 ∧ z = r + o.2.2 ∧ V5 S p q r = true := by
  unfold V9 V5
  rw [placeF_get ho 125 (Nat.le_refl _)]
  unfold idx9
  obtain ⟨h1, h2, h3⟩ := ho
  constructor
  · rintro ⟨m, hm, e, hS⟩
    refine ⟨m % 5, m / 5 % 5, m / 25, by omega, by omega, by omega, by omega, by omega, by omega, ?_⟩
    rw [show (m / 25 * 5 + m / 5 % 5) * 5 + m % 5 = m by omega]
    exact hS
  · rintro ⟨p, q, r, hp, hq, hr, e1, e2, e3, hS⟩
    refine ⟨(r * 5 + q) * 5 + p, by omega, ?_, hS⟩
    rw [show ((r * 5 + q) * 5 + p) / 25 = r by omega, show ((r * 5 + q) * 5 + p) / 5 % 5 = q by omega, show ((r * 5 + q) * 5 + p) % 5 = p by omega, e1, e2, e3]
/-- Nothing at the border. -/
def InS (S : List Bool) : Prop := ∀ p q r, p < 5 → q < 5 → r < 5 → V5 S p q r = true → (1 ≤ p ∧ p ≤ 3) ∧ (1 ≤ q ∧ q ≤ 3) ∧ (1 ≤ r ∧ r ≤ 3)
theorem inS_of {S : List Bool} (h : validF 2 S = true) : InS S := by
  obtain ⟨hl, hok⟩ := valid_parts (l := 2) h
  intro p q r hp hq hr hV
  have hlt := three_lt hp hq hr
  have hg := okF_get hok (k := (r * 5 + q) * 5 + p) (by rw [hl]; exact hlt) hV
  obtain ⟨e1, e2, e3⟩ := cell_no (z := r) hp hq
  have g0 := hg 0 (by omega)
  have g1 := hg 1 (by omega)
  have g2 := hg 2 (by omega)
  unfold badC compK at g0 g1 g2
  simp only [Nat.reducePow, Nat.reduceAdd, if_true] at g0 g1 g2
  rw [e1] at g0
  simp only [Nat.one_ne_zero, if_false] at g1
  rw [e2] at g1
  simp only [show ¬ (2 = 0) by omega, show ¬ (2 = 1) by omega, if_false] at g2
  rw [e3] at g2
  simp only [Bool.or_eq_false_iff, beq_eq_false_iff_ne, ne_eq] at g0 g1 g2
  omega
theorem okF_of {F : List Bool} {n m : Nat} (h : ∀ k, k < m → F.getD k false = true → ∀ j, j < 3 → badC n (compK (n + 1) k j) = false) : okF F n m = true := by
  unfold okF
  refine List.all_eq_true.2 fun k hk => ?_
  cases hF : F.getD k false with
  | false => exact okK_out hF
  | true => exact okK_all (h k (List.mem_range.1 hk) hF)
theorem valid9 {G : List Bool} (hl : G.length = 729) (h : ∀ x y z, x < 9 → y < 9 → z < 9 → V9 G x y z = true → (1 ≤ x ∧ x ≤ 7) ∧ (1 ≤ y ∧ y ≤ 7) ∧ (1 ≤ z ∧ z ≤ 7)) : validF 3 G = true := by
  refine valid_of (l := 3) (by omega) (by omega) hl (okF_of fun k hk hG j hj => ?_)
  rw [hl] at hk
  obtain ⟨a1, a2, a3, a4⟩ := three_of (s := 9) (k := k) hk
  have hb := h (k % 9) (k / 9 % 9) (k / 9 / 9) a1 a2 a3 (by unfold V9; rw [← a4]; exact hG)
  have hc : j = 0 ∨ j = 1 ∨ j = 2 := by omega
  unfold badC compK
  rcases hc with rfl | rfl | rfl
  · simp only [Nat.reducePow, Nat.reduceAdd, if_true]
    simp only [Bool.or_eq_false_iff, beq_eq_false_iff_ne, ne_eq]; omega
  · simp only [Nat.reducePow, Nat.reduceAdd, Nat.one_ne_zero, if_false, if_true]
    simp only [Bool.or_eq_false_iff, beq_eq_false_iff_ne, ne_eq]; omega
  · simp only [Nat.reducePow, Nat.reduceAdd, show ¬ (2 = 0) by omega, show ¬ (2 = 1) by omega, if_false]
    simp only [Bool.or_eq_false_iff, beq_eq_false_iff_ne, ne_eq]; omega
theorem place_valid {S : List Bool} {o : Nat × Nat × Nat} (ho : smallO o) (hS : InS S) : validF 3 (placeF S o 125) = true := by
  refine valid9 (placeF_length _ _ _) fun x y z hx hy hz hV => ?_
  obtain ⟨p, q, r, hp, hq, hr, e1, e2, e3, hV5⟩ := (placeF_at ho hx hy hz).1 hV
  have := hS p q r hp hq hr hV5
  obtain ⟨h1, h2, h3⟩ := ho
  omega
/-! Cells of the greater grid. -/
theorem insF_9 (G : List Bool) (x y z v : Nat) : insF G 9 x y z v = V9 G (x + v % 2) (y + v / 2 % 2) (z + v / 4 % 2) := by
  unfold insF vtx V9
  simp only [Nat.add_assoc]
theorem bits_9 (G : List Bool) {x y z : Nat} (hx : x < 8) (hy : y < 8) : bitsF G 8 ((z * 8 + y) * 8 + x) = (List.range 8).map fun v => V9 G (x + v % 2) (y + v / 2 % 2) (z + v / 4 % 2) := by
  obtain ⟨e1, e2, e3⟩ := cell_no (z := z) hx hy
  unfold bitsF
  rw [e1, e2, e3]
  exact List.map_congr_left fun v _ => insF_9 G x y z v
theorem cell_9 {x y z : Nat} (hx : x < 8) (hy : y < 8) : cellAt 8 ((z * 8 + y) * 8 + x) = ((x : Int), (y : Int), (z : Int)) := by
  obtain ⟨e1, e2, e3⟩ := cell_no (z := z) hx hy
  unfold cellAt
  rw [e1, e2, e3]
set_option maxRecDepth 100000 in
theorem out_cycles : cyclesP (insL (List.replicate 8 false)) = [] := by decide +kernel
theorem out_cell {l : List Bool} (hl : l = (List.range 8).map fun _ => false) (c : Pt) (h : Int) : cellTs l c h = [] := by
  have e : l = List.replicate 8 false := hl
  rw [e, cellTs, out_cycles]
  rfl
/-- The cells that hold something. -/
theorem flat_only {A : Nat → List Tri} {m p : Nat} (τ : Nat → Nat) (hτ : ∀ i, i < p → τ i < m) (hi : ∀ i j, i < p → j < p → τ i = τ j → i = j) (hA : ∀ k, k < m → (∀ i, i < p → τ i ≠ k) → A k = []) :
    ((List.range p).flatMap fun i => A (τ i)).Perm ((List.range m).flatMap A) := by
  have hp : ((List.range p).map τ ++ (List.range m).filter fun k => !((List.range p).map τ).contains k).Perm (List.range m) := by
    refine (List.perm_ext_iff_of_nodup ?_ List.nodup_range).2 fun j => ?_
    · refine List.nodup_append.2 ⟨?_, List.Pairwise.filter _ List.nodup_range, ?_⟩
      · refine List.pairwise_map.2 (List.pairwise_iff_getElem.2 fun i j hi' hj hij e => ?_)
        simp only [List.length_range, List.getElem_range] at hi' hj e
        have := hi i j hi' hj e
        omega
      · rintro x hx y hy rfl
        rw [List.mem_filter] at hy
        have := hy.2
        simp only [Bool.not_eq_true', List.contains_eq_mem, decide_eq_false_iff_not] at this
        exact this hx
    · rw [List.mem_append, List.mem_filter]
      constructor
      · rintro (h | h)
        · obtain ⟨i, hi', rfl⟩ := List.mem_map.1 h
          exact List.mem_range.2 (hτ i (List.mem_range.1 hi'))
        · exact h.1
      · intro h
        by_cases hc : j ∈ (List.range p).map τ
        · exact .inl hc
        · exact .inr ⟨h, by simp only [Bool.not_eq_true', List.contains_eq_mem, decide_eq_false_iff_not]; exact hc⟩
  have h1 := hp.flatMap_right A
  rw [List.flatMap_append, List.flatMap_map] at h1
  have h2 : (((List.range m).filter fun k => !((List.range p).map τ).contains k).flatMap A) = [] := by
    refine List.flatMap_eq_nil_iff.2 fun k hk => ?_
    rw [List.mem_filter] at hk
    refine hA k (List.mem_range.1 hk.1) fun i hi' e => ?_
    have := hk.2
    simp only [Bool.not_eq_true', List.contains_eq_mem, decide_eq_false_iff_not] at this
    exact this (List.mem_map.2 ⟨i, List.mem_range.2 hi', e⟩)
  rw [h2, List.append_nil] at h1
  exact h1
theorem flat_both {α β : Type} (A B : α → List β) : ∀ l : List α, (l.flatMap fun k => A k ++ B k).Perm (l.flatMap A ++ l.flatMap B)
  | [] => List.Perm.refl _
  | k :: l => by
    rw [List.flatMap_cons, List.flatMap_cons, List.flatMap_cons, List.append_assoc, List.append_assoc]
    refine List.Perm.append_left _ ?_
    refine ((flat_both A B l).append_left (B k)).trans ?_
    rw [← List.append_assoc, ← List.append_assoc]
    exact List.perm_append_comm.append_right _
theorem ltT_sh (v : Pt) (s t : Tri) : ltT (shT v s) (shT v t) = ltT s t := by
  have hd : ∀ p q : Pt, decide (addP v p = addP v q) = decide (p = q) := fun p q => by
    rw [Bool.eq_iff_iff, decide_eq_true_eq, decide_eq_true_eq]
    exact ⟨addP_inj v, fun e => by rw [e]⟩
  unfold ltT lexB shT
  simp only [ltP_sh, hd]
/-- The canonical form of a moved surface. -/
theorem canon_sh (v : Pt) (s : List Tri) : (canonT s).map (shT v) = canonT (s.map (shT v)) := by
  refine tot_T.uniq ?_ ?_
  · refine ((canonT_perm s).map _).trans (List.Perm.of_eq ?_)
    rw [List.map_map, List.map_map]
    exact List.map_congr_left fun t _ => (rotT_sh v t).symm
  · refine List.pairwise_map.2 ((tot_T.sorted (s.map rotT)).imp fun h => ?_)
    unfold leO at h ⊢
    rw [ltT_sh]
    exact h
/-- Cell i of 4 in each direction, moved. -/
def cel8 (o : Nat × Nat × Nat) (i : Nat) : Nat := ((i / 16 + o.2.2) * 8 + (i / 4 % 4 + o.2.1)) * 8 + (i % 4 + o.1)
theorem place_only {S : List Bool} {o : Nat × Nat × Nat} (ho : smallO o) (hS : InS S) (h : Int) : ((List.range 64).flatMap fun i => cellTs (bitsF (placeF S o 125) 8 (cel8 o i)) (cellAt 8 (cel8 o i)) h).Perm (ctrL (placeF S o 125) 8 h (8 * 8 * 8)) := by
  have ho' := ho
  obtain ⟨h1, h2, h3⟩ := ho'
  refine flat_only (A := fun k => cellTs (bitsF (placeF S o 125) 8 k) (cellAt 8 k) h) (cel8 o) (fun i hi => by unfold cel8; omega) (fun i j hi hj e => by unfold cel8 at e; omega) fun k hk hno => ?_
  obtain ⟨a1, a2, a3, a4⟩ := three_of (s := 8) (k := k) hk
  have hout : ¬ ((o.1 ≤ k % 8 ∧ k % 8 ≤ o.1 + 3) ∧ (o.2.1 ≤ k / 8 % 8 ∧ k / 8 % 8 ≤ o.2.1 + 3) ∧ (o.2.2 ≤ k / 8 / 8 ∧ k / 8 / 8 ≤ o.2.2 + 3)) := fun hin => by
    refine hno (((k / 8 / 8 - o.2.2) * 4 + (k / 8 % 8 - o.2.1)) * 4 + (k % 8 - o.1)) (by omega) ?_
    unfold cel8
    omega
  obtain ⟨x, hx⟩ : ∃ x, x = k % 8 := ⟨_, rfl⟩
  obtain ⟨y, hy⟩ : ∃ y, y = k / 8 % 8 := ⟨_, rfl⟩
  obtain ⟨z, hz⟩ : ∃ z, z = k / 8 / 8 := ⟨_, rfl⟩
  rw [← hx] at a1 hout
  rw [← hy] at a2 hout
  rw [← hz] at a3 hout
  rw [← hx, ← hy, ← hz] at a4
  rw [a4, bits_9 _ a1 a2]
  refine out_cell (List.map_congr_left fun v hv => ?_) _ _
  have hv := List.mem_range.1 hv
  rw [← Bool.not_eq_true, placeF_at ho (by omega) (by omega) (by omega)]
  rintro ⟨p, q, r, hp, hq, hr, e1, e2, e3, hV⟩
  have := hS p q r hp hq hr hV
  omega
theorem place_bits {S : List Bool} {o : Nat × Nat × Nat} (ho : smallO o) {i : Nat} (hi : i < 64) : bitsF (placeF S o 125) 8 (cel8 o i) = (List.range 8).map fun v => V5 S (i % 4 + v % 2) (i / 4 % 4 + v / 2 % 2) (i / 16 + v / 4 % 2) := by
  have ho' := ho
  obtain ⟨h1, h2, h3⟩ := ho'
  unfold cel8
  rw [bits_9 _ (by omega) (by omega)]
  refine List.map_congr_left fun v hv => ?_
  have hv := List.mem_range.1 hv
  rw [Bool.eq_iff_iff, placeF_at ho (by omega) (by omega) (by omega)]
  constructor
  · rintro ⟨p, q, r, hp, hq, hr, e1, e2, e3, hV⟩
    rw [show i % 4 + v % 2 = p by omega, show i / 4 % 4 + v / 2 % 2 = q by omega, show i / 16 + v / 4 % 2 = r by omega]
    exact hV
  · intro hV
    exact ⟨_, _, _, by omega, by omega, by omega, by omega, by omega, by omega, hV⟩
theorem place_cell {o : Nat × Nat × Nat} (ho : smallO o) {i : Nat} : cellAt 8 (cel8 o i) = (((i % 4 + o.1 : Nat) : Int), ((i / 4 % 4 + o.2.1 : Nat) : Int), ((i / 16 + o.2.2 : Nat) : Int)) := by
  obtain ⟨h1, h2, h3⟩ := ho
  unfold cel8
  exact cell_9 (by omega) (by omega)
theorem shT_shT (u v : Pt) (t : Tri) : shT u (shT v t) = shT (addP u v) t := by
  unfold shT
  simp only [addP_assoc]
/-- The law: a field that is moved has the moved surface. -/
theorem moved_law {S : List Bool} {o : Nat × Nat × Nat} (ho : smallO o) (hv : validF 2 S = true) :
    (contourP 3 (placeF S (0, 0, 0) 125)).map (shT (262144 * (o.1 : Int), 262144 * (o.2.1 : Int), 262144 * (o.2.2 : Int))) = contourP 3 (placeF S o 125) := by
  have hS := inS_of hv
  have h0 : smallO (0, 0, 0) := ⟨Nat.zero_le _, Nat.zero_le _, Nat.zero_le _⟩
  have e1 := contour_lvl (l := 3) (place_valid h0 hS)
  have e2 := contour_lvl (l := 3) (place_valid ho hS)
  rw [show (((3 : Nat) : Int)) = 3 from rfl] at e1 e2
  rw [e1, e2, canon_sh]
  refine SameS.canon ?_
  simp only [Nat.reducePow, Nat.reduceSub, Int.cast_ofNat_Int]
  refine (SameS.of_perm ((place_only h0 hS 262144).symm.map _)).trans (SameS.trans ?_ (SameS.of_perm (place_only ho hS 262144)))
  rw [List.map_flatMap]
  refine SameS.flat _ fun i hi => ?_
  have hi := List.mem_range.1 hi
  rw [cellTs_shift (bitsF_length _ 8 _), cellTs_shift (bitsF_length (placeF S o 125) 8 _), place_bits h0 hi, place_bits ho hi, place_cell h0, place_cell ho, List.map_map]
  refine SameS.of_perm (List.Perm.of_eq (List.map_congr_left fun t _ => ?_))
  show shT _ (shT _ t) = _
  rw [shT_shT]
  refine congrArg (fun v => shT v t) ?_
  simp only [addP, Prod.mk.injEq]
  push_cast
  omega
/-- The law: two fields far from each other. -/
theorem apart_law {S T : List Bool} (hv : validF 2 S = true) (hw : validF 2 T = true) :
    canonO (contourP 3 (placeF S (0, 0, 0) 125) ++ contourP 3 (placeF T (4, 0, 0) 125)) = canonO (contourP 3 (bothF S T (0, 0, 0) (4, 0, 0) 125)) := by
  have hS := inS_of hv
  have hT := inS_of hw
  have h0 : smallO (0, 0, 0) := ⟨Nat.zero_le _, Nat.zero_le _, Nat.zero_le _⟩
  have h4 : smallO (4, 0, 0) := ⟨Nat.le_refl _, Nat.zero_le _, Nat.zero_le _⟩
  have hget : ∀ x y z, V9 (bothF S T (0, 0, 0) (4, 0, 0) 125) x y z = (V9 (placeF S (0, 0, 0) 125) x y z || V9 (placeF T (4, 0, 0) 125) x y z) := fun x y z => bothF_get h0 h4 125 (Nat.le_refl _) _
  have ha : ∀ x y z, x < 9 → y < 9 → z < 9 → V9 (placeF S (0, 0, 0) 125) x y z = true → (1 ≤ x ∧ x ≤ 3) ∧ (1 ≤ y ∧ y ≤ 3) ∧ (1 ≤ z ∧ z ≤ 3) := fun x y z hx hy hz hV => by
    obtain ⟨p, q, r, hp, hq, hr, e1, e2, e3, hV5⟩ := (placeF_at h0 hx hy hz).1 hV
    have := hS p q r hp hq hr hV5
    dsimp only at e1 e2 e3
    omega
  have hb : ∀ x y z, x < 9 → y < 9 → z < 9 → V9 (placeF T (4, 0, 0) 125) x y z = true → (5 ≤ x ∧ x ≤ 7) ∧ (1 ≤ y ∧ y ≤ 3) ∧ (1 ≤ z ∧ z ≤ 3) := fun x y z hx hy hz hV => by
    obtain ⟨p, q, r, hp, hq, hr, e1, e2, e3, hV5⟩ := (placeF_at h4 hx hy hz).1 hV
    have := hT p q r hp hq hr hV5
    dsimp only at e1 e2 e3
    omega
  have hvc : validF 3 (bothF S T (0, 0, 0) (4, 0, 0) 125) = true := valid9 (bothF_length _ _ _ _ _) fun x y z hx hy hz hV => by
    rw [hget, Bool.or_eq_true] at hV
    rcases hV with hV | hV
    · have := ha x y z hx hy hz hV; omega
    · have := hb x y z hx hy hz hV; omega
  have e1 := contour_lvl (l := 3) (place_valid h0 hS)
  have e2 := contour_lvl (l := 3) (place_valid h4 hT)
  have e3 := contour_lvl (l := 3) hvc
  rw [show (((3 : Nat) : Int)) = 3 from rfl] at e1 e2 e3
  rw [e1, e2, e3, canonO_T, canonO_T]
  refine SameS.canon ?_
  simp only [Nat.reducePow, Nat.reduceSub, Int.cast_ofNat_Int]
  have hh : SideH 262144 := .inl rfl
  refine ((same_canon (dist_ctr hh _ 8 _)).append (same_canon (dist_ctr hh _ 8 _))).trans (SameS.trans ?_ (same_canon (dist_ctr hh _ 8 _)).symm)
  unfold ctrL
  refine (SameS.of_perm (flat_both _ _ _).symm).trans (SameS.flat _ fun k hk => ?_)
  obtain ⟨a1, a2, a3, a4⟩ := three_of (s := 8) (k := k) (List.mem_range.1 hk)
  obtain ⟨x, hx⟩ : ∃ x, x = k % 8 := ⟨_, rfl⟩
  obtain ⟨y, hy⟩ : ∃ y, y = k / 8 % 8 := ⟨_, rfl⟩
  obtain ⟨z, hz⟩ : ∃ z, z = k / 8 / 8 := ⟨_, rfl⟩
  rw [← hx] at a1 a4
  rw [← hy] at a2 a4
  rw [← hz] at a3 a4
  rw [a4, bits_9 _ a1 a2, bits_9 _ a1 a2, bits_9 _ a1 a2]
  simp only [hget]
  refine SameS.of_perm (List.Perm.of_eq ?_)
  by_cases hx4 : x < 4
  · have hn : ∀ v, v < 8 → V9 (placeF T (4, 0, 0) 125) (x + v % 2) (y + v / 2 % 2) (z + v / 4 % 2) = false := fun v hv => by
      rw [← Bool.not_eq_true]
      intro h
      have := hb _ _ _ (by omega) (by omega) (by omega) h
      omega
    rw [out_cell (l := (List.range 8).map fun v => V9 (placeF T (4, 0, 0) 125) (x + v % 2) (y + v / 2 % 2) (z + v / 4 % 2)) (List.map_congr_left fun v hv => hn v (List.mem_range.1 hv)), List.append_nil]
    refine congrArg (fun L => cellTs L _ _) ?_
    refine List.map_congr_left fun v hv => ?_
    rw [hn v (List.mem_range.1 hv), Bool.or_false]
  · have hn : ∀ v, v < 8 → V9 (placeF S (0, 0, 0) 125) (x + v % 2) (y + v / 2 % 2) (z + v / 4 % 2) = false := fun v hv => by
      rw [← Bool.not_eq_true]
      intro h
      have := ha _ _ _ (by omega) (by omega) (by omega) h
      omega
    rw [out_cell (l := (List.range 8).map fun v => V9 (placeF S (0, 0, 0) 125) (x + v % 2) (y + v / 2 % 2) (z + v / 4 % 2)) (List.map_congr_left fun v hv => hn v (List.mem_range.1 hv)), List.nil_append]
    refine congrArg (fun L => cellTs L _ _) ?_
    refine List.map_congr_left fun v hv => ?_
    rw [hn v (List.mem_range.1 hv), Bool.false_or]
end Go.Proofs.Ytfljcgehhnmamaa
