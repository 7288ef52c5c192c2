/- Layer 8, plain: the crossings of a field. No program. -/
import Derived.Test.YtfljcgehhnmamaaCBdP
namespace Go.Proofs.Ytfljcgehhnmamaa
open Go.RowKit
def digA (n k a : Nat) : Nat := if a = 0 then k % (n + 1) else if a = 1 then k / (n + 1) % (n + 1) else k / (n + 1) / (n + 1)
/-- The far end of the edge from vertex k along axis a. -/
def farK (n k a : Nat) : Nat := if a = 0 then (k / (n + 1) / (n + 1) * (n + 1) + k / (n + 1) % (n + 1)) * (n + 1) + (k % (n + 1) + 1) else if a = 1 then (k / (n + 1) / (n + 1) * (n + 1) + (k / (n + 1) % (n + 1) + 1)) * (n + 1) + k % (n + 1) else ((k / (n + 1) / (n + 1) + 1) * (n + 1) + k / (n + 1) % (n + 1)) * (n + 1) + k % (n + 1)
def crsB (F : List Bool) (n k a : Nat) : Bool := decide (digA n k a < n) && (F.getD k false != F.getD (farK n k a) false)
def midK (n : Nat) (h : Int) (k a : Nat) : Pt := midG h (k % (n + 1)) (k / (n + 1) % (n + 1)) (k / (n + 1) / (n + 1)) a
def crsA (F : List Bool) (n : Nat) (h : Int) (k a : Nat) : List Pt := if crsB F n k a = true then [midK n h k a] else []
def crsK (F : List Bool) (n : Nat) (h : Int) (k : Nat) : List Pt := crsA F n h k 0 ++ crsA F n h k 1 ++ crsA F n h k 2
/-- The crossings that the first m vertices begin. -/
def crsN (F : List Bool) (n : Nat) (h : Int) (m : Nat) : List Pt := (List.range m).flatMap (crsK F n h)
theorem crsN_succ (F : List Bool) (n : Nat) (h : Int) (m : Nat) : crsN F n h (m + 1) = crsN F n h m ++ crsA F n h m 0 ++ crsA F n h m 1 ++ crsA F n h m 2 := by
  unfold crsN
  rw [List.range_succ, List.flatMap_append, List.flatMap_singleton, crsK, ← List.append_assoc, ← List.append_assoc]
theorem crsA_few (F : List Bool) (n : Nat) (h : Int) (k a : Nat) : (crsA F n h k a).length ≤ 1 := by
  unfold crsA
  split <;> simp
theorem crsN_few (F : List Bool) (n : Nat) (h : Int) (m : Nat) : (crsN F n h m).length ≤ 3 * m := by
  induction m with
  | zero => simp [crsN]
  | succ m ih =>
    rw [crsN_succ, List.length_append, List.length_append, List.length_append]
    have a0 := crsA_few F n h m 0
    have a1 := crsA_few F n h m 1
    have a2 := crsA_few F n h m 2
    omega
/-- How many coordinates are on the grid. -/
def wholeP (h : Int) (p : Pt) : Nat := (if p.1 % h = 0 then 1 else 0) + (if p.2.1 % h = 0 then 1 else 0) + (if p.2.2 % h = 0 then 1 else 0)
theorem VF_far {F : List Bool} {n k a : Nat} (ha : a < 3) (hk : k < (n + 1) * (n + 1) * (n + 1)) : F.getD k false = VF F n (k % (n + 1)) (k / (n + 1) % (n + 1)) (k / (n + 1) / (n + 1)) ∧ F.getD (farK n k a) false = VF F n (k % (n + 1) + (axU a).1) (k / (n + 1) % (n + 1) + (axU a).2.1) (k / (n + 1) / (n + 1) + (axU a).2.2) := by
  obtain ⟨a1, a2, a3, a4⟩ := three_of hk
  refine ⟨?_, ?_⟩
  · unfold VF; rw [← a4]
  · have hc : a = 0 ∨ a = 1 ∨ a = 2 := by omega
    unfold VF farK
    rcases hc with rfl | rfl | rfl <;> rfl
theorem mem_cross {F : List Bool} {n : Nat} {h : Int} {m : Nat} {p : Pt} : p ∈ crsN F n h m ↔ ∃ k a, k < m ∧ a < 3 ∧ crsB F n k a = true ∧ p = midK n h k a := by
  unfold crsN crsK
  simp only [List.mem_flatMap, List.mem_range, List.mem_append]
  have hA : ∀ k a, p ∈ crsA F n h k a ↔ crsB F n k a = true ∧ p = midK n h k a := fun k a => by
    unfold crsA
    by_cases hb : crsB F n k a = true
    · rw [if_pos hb, List.mem_singleton]; simp [hb]
    · rw [if_neg hb]; simp [hb]
  constructor
  · rintro ⟨k, hk, (h0 | h1) | h2⟩
    · exact ⟨k, 0, hk, by omega, (hA k 0).1 h0⟩
    · exact ⟨k, 1, hk, by omega, (hA k 1).1 h1⟩
    · exact ⟨k, 2, hk, by omega, (hA k 2).1 h2⟩
  · rintro ⟨k, a, hk, ha, hb⟩
    refine ⟨k, hk, ?_⟩
    have hc : a = 0 ∨ a = 1 ∨ a = 2 := by omega
    rcases hc with rfl | rfl | rfl
    · exact .inl (.inl ((hA k 0).2 hb))
    · exact .inl (.inr ((hA k 1).2 hb))
    · exact .inr ((hA k 2).2 hb)
/-- A middle tells its edge. -/
theorem midG_eq {h : Int} (hh : SideH h) {x y z a x' y' z' a' : Nat} (ha : a < 3) (ha' : a' < 3) (e : midG h x y z a = midG h x' y' z' a') : x = x' ∧ y = y' ∧ z = z' ∧ a = a' := by
  unfold midG at e
  simp only [Prod.mk.injEq] at e
  have hc : a = 0 ∨ a = 1 ∨ a = 2 := by omega
  have hc' : a' = 0 ∨ a' = 1 ∨ a' = 2 := by omega
  rcases hh with rfl | rfl | rfl <;> rcases hc with rfl | rfl | rfl <;> rcases hc' with rfl | rfl | rfl <;> simp [axU] at e ⊢ <;> omega
theorem midG_whole {h : Int} (hh : SideH h) {x y z a : Nat} (ha : a < 3) : wholeP h (midG h x y z a) = 2 := by
  have hc : a = 0 ∨ a = 1 ∨ a = 2 := by omega
  unfold wholeP midG
  rcases hh with rfl | rfl | rfl <;> rcases hc with rfl | rfl | rfl <;> simp [axU] <;> (repeat' split) <;> omega
theorem inB_whole {h : Int} (hh : SideH h) {c q : Pt} (hq : InB h q) : wholeP h (addP (c.1 * h, c.2.1 * h, c.2.2 * h) q) = 0 := by
  obtain ⟨h1, h2, h3⟩ := hq
  unfold wholeP addP
  rcases hh with rfl | rfl | rfl <;> dsimp only <;> (rw [if_neg (by omega), if_neg (by omega), if_neg (by omega)])
theorem cross_nodup {F : List Bool} {n : Nat} {h : Int} (hh : SideH h) : ∀ m, m ≤ (n + 1) * (n + 1) * (n + 1) → (crsN F n h m).Nodup
  | 0, _ => by simp [crsN]
  | m + 1, hm => by
    have ih := cross_nodup (F := F) (n := n) hh m (by omega)
    have key : ∀ a, a < 3 → ∀ p, p ∈ crsA F n h m a → p = midK n h m a := fun a _ p hp => by
      unfold crsA at hp
      split at hp
      · exact List.mem_singleton.1 hp
      · cases hp
    have one : ∀ a, (crsA F n h m a).Nodup := fun a => by
      unfold crsA
      split <;> simp
    rw [crsN_succ]
    have hdif : ∀ a b, a < 3 → b < 3 → a ≠ b → midK n h m a ≠ midK n h m b := fun a b ha hb hab e => hab (midG_eq hh ha hb e).2.2.2
    have hold : ∀ a, a < 3 → ∀ p, p ∈ crsN F n h m → p ≠ midK n h m a := fun a ha p hp e => by
      obtain ⟨k, b, hk, hb, _, rfl⟩ := mem_cross.1 hp
      obtain ⟨e1, e2, e3, _⟩ := midG_eq hh hb ha e
      have a4 := (three_of (s := n + 1) (k := k) (by omega)).2.2.2
      have b4 := (three_of (s := n + 1) (k := m) (by omega)).2.2.2
      rw [e1, e2, e3, ← b4] at a4
      omega
    refine List.nodup_append.2 ⟨List.nodup_append.2 ⟨List.nodup_append.2 ⟨ih, one 0, ?_⟩, one 1, ?_⟩, one 2, ?_⟩
    · rintro p hp q hq rfl
      exact hold 0 (by omega) p hp (key 0 (by omega) p hq)
    · rintro p hp q hq rfl
      rcases List.mem_append.1 hp with hp | hp
      · exact hold 1 (by omega) p hp (key 1 (by omega) p hq)
      · exact hdif 0 1 (by omega) (by omega) (by omega) ((key 0 (by omega) p hp).symm.trans (key 1 (by omega) p hq))
    · rintro p hp q hq rfl
      rcases List.mem_append.1 hp with hp | hp
      · rcases List.mem_append.1 hp with hp | hp
        · exact hold 2 (by omega) p hp (key 2 (by omega) p hq)
        · exact hdif 0 2 (by omega) (by omega) (by omega) ((key 0 (by omega) p hp).symm.trans (key 2 (by omega) p hq))
      · exact hdif 1 2 (by omega) (by omega) (by omega) ((key 1 (by omega) p hp).symm.trans (key 2 (by omega) p hq))
/-- The corners of a list, each once: the same points. -/
theorem atP_le (l : List Pt) (p : Pt) : atP l p ≤ l.length := (List.takeWhile_prefix _).length_le
theorem withP_iff {l : List Pt} {p q : Pt} : q ∈ withP l p ↔ q ∈ l ∨ q = p := by
  unfold withP
  split
  · rename_i h
    constructor
    · exact .inl
    · rintro (h1 | rfl)
      · exact h1
      · exact List.mem_of_getElem? h
  · rw [List.mem_append, List.mem_cons]
    have : q ∈ l ↔ q ∈ l.take (atP l p) ∨ q ∈ l.drop (atP l p) := by rw [← List.mem_append, List.take_append_drop]
    rw [this]
    constructor
    · rintro (h | h | h)
      · exact .inl (.inl h)
      · exact .inr h
      · exact .inl (.inr h)
    · rintro ((h | h) | h)
      · exact .inl h
      · exact .inr (.inr h)
      · exact .inr (.inl h)
theorem corN3_mem {l : List Pt} {t : Tri} {q : Pt} : q ∈ corN l t 3 ↔ q ∈ l ∨ CorOf t q := by
  show q ∈ withP (withP (withP l t.1) t.2.1) t.2.2 ↔ _
  rw [withP_iff, withP_iff, withP_iff]
  unfold CorOf
  constructor
  · rintro (((h | h) | h) | h)
    · exact .inl h
    · exact .inr (.inl h)
    · exact .inr (.inr (.inl h))
    · exact .inr (.inr (.inr h))
  · rintro (h | h | h | h)
    · exact .inl (.inl (.inl h))
    · exact .inl (.inl (.inr h))
    · exact .inl (.inr h)
    · exact .inr h
theorem cornersP_mem {ts : List Tri} {q : Pt} : q ∈ cornersP ts ↔ ∃ t ∈ ts, CorOf t q := by
  have key : ∀ (ts : List Tri) (l : List Pt), q ∈ ts.foldl (fun l t => corN l t 3) l ↔ q ∈ l ∨ ∃ t ∈ ts, CorOf t q := by
    intro ts
    induction ts with
    | nil => intro l; simp
    | cons t ts ih =>
      intro l
      rw [List.foldl_cons, ih, corN3_mem]
      simp only [List.mem_cons, exists_eq_or_imp]
      constructor
      · rintro ((h | h) | h)
        · exact .inl h
        · exact .inr (.inl h)
        · exact .inr (.inr h)
      · rintro (h | h | h)
        · exact .inl (.inl h)
        · exact .inl (.inr h)
        · exact .inr h
  unfold cornersP
  rw [key]
  simp
/-- Sorted strictly. -/
def SortedP (l : List Pt) : Prop := l.Pairwise fun a b => ltP a b = true
theorem atP_cons (a : Pt) (l : List Pt) (p : Pt) : atP (a :: l) p = if ltP a p = true then atP l p + 1 else 0 := by
  unfold atP
  rw [List.takeWhile_cons]
  split <;> rfl
theorem atP_spec : ∀ (l : List Pt) (p : Pt), (∀ x ∈ l.take (atP l p), ltP x p = true) ∧ ∀ x, l[atP l p]? = some x → ltP x p = false
  | [], p => ⟨by simp, by simp⟩
  | a :: l, p => by
    have ih := atP_spec l p
    rw [atP_cons]
    by_cases h : ltP a p = true
    · rw [if_pos h]
      refine ⟨fun x hx => ?_, fun x hx => ?_⟩
      · rw [List.take_succ_cons] at hx
        rcases List.mem_cons.1 hx with rfl | hx
        · exact h
        · exact ih.1 x hx
      · rw [List.getElem?_cons_succ] at hx
        exact ih.2 x hx
    · rw [if_neg h]
      refine ⟨by simp, fun x hx => ?_⟩
      simp only [List.getElem?_cons_zero, Option.some.injEq] at hx
      rw [← hx]
      simpa using h
theorem withP_sorted {l : List Pt} (h : SortedP l) (p : Pt) : SortedP (withP l p) := by
  unfold withP
  split
  · exact h
  · rename_i hne
    have hlo := (atP_spec l p).1
    have hhi : ∀ x ∈ l.drop (atP l p), ltP p x = true := fun x hx => by
      obtain ⟨j, hj⟩ := List.mem_iff_getElem?.1 hx
      rw [List.getElem?_drop] at hj
      obtain ⟨hlt, ej⟩ := List.getElem?_eq_some_iff.1 hj
      have hi : atP l p < l.length := by omega
      have h0 : ltP l[atP l p] p = false := (atP_spec l p).2 _ (List.getElem?_eq_getElem hi)
      have hn : l[atP l p] ≠ p := fun e => hne (by rw [List.getElem?_eq_getElem hi, e])
      have h1 : ltP p l[atP l p] = true := by
        cases hb : ltP p l[atP l p] with
        | true => rfl
        | false => exact absurd (sto_P.total _ _ h0 hb) hn
      rcases Nat.eq_zero_or_pos j with rfl | hj0
      · simp only [Nat.add_zero] at ej; rw [← ej]; exact h1
      · have := List.pairwise_iff_getElem.1 h (atP l p) (atP l p + j) hi hlt (by omega)
        rw [ej] at this
        exact sto_P.trans _ _ _ h1 this
    refine List.pairwise_append.2 ⟨h.sublist (List.take_sublist _ _), List.pairwise_cons.2 ⟨hhi, h.sublist (List.drop_sublist _ _)⟩, fun a ha b hb => ?_⟩
    rcases List.mem_cons.1 hb with rfl | hb
    · exact hlo a ha
    · exact sto_P.trans _ _ _ (hlo a ha) (hhi b hb)
theorem cornersP_sorted (ts : List Tri) : SortedP (cornersP ts) := by
  have key : ∀ (ts : List Tri) (l : List Pt), SortedP l → SortedP (ts.foldl (fun l t => corN l t 3) l) := by
    intro ts
    induction ts with
    | nil => intro l h; exact h
    | cons t ts ih =>
      intro l h
      exact ih _ (withP_sorted (withP_sorted (withP_sorted h _) _) _)
  exact key ts [] List.Pairwise.nil
theorem cornersP_nodup (ts : List Tri) : (cornersP ts).Nodup := (cornersP_sorted ts).imp fun h e => by rw [e, sto_P.irrefl] at h; cases h
/-- The law: the corners on edges are the crossings, all others lie strictly inside of cells. -/
theorem cross_law {l : Nat} {F : List Bool} (h1 : 1 ≤ l) (h3 : l ≤ 3) (hv : validF l F = true) :
    (∀ p ∈ cornersP (contourP l F), wholeP ((2 ^ (21 - l) : Nat) : Int) p = 0 ∨ wholeP ((2 ^ (21 - l) : Nat) : Int) p = 2 ∧ p ∈ crsN F (2 ^ l) ((2 ^ (21 - l) : Nat) : Int) F.length) ∧
    (cornersP (contourP l F)).countP (fun p => decide (wholeP ((2 ^ (21 - l) : Nat) : Int) p = 2)) = (crsN F (2 ^ l) ((2 ^ (21 - l) : Nat) : Int) F.length).length := by
  have hh : SideH ((2 ^ (21 - l) : Nat) : Int) := sideE h1 h3
  obtain ⟨hl, hok⟩ := valid_parts hv
  rw [contour_lvl hv]
  obtain ⟨h, hhe⟩ : ∃ h : Int, h = ((2 ^ (21 - l) : Nat) : Int) := ⟨_, rfl⟩
  rw [← hhe] at hh ⊢
  obtain ⟨n, hn⟩ : ∃ n, n = 2 ^ l := ⟨_, rfl⟩
  rw [← hn] at hl hok ⊢
  have hmem : ∀ q, q ∈ cornersP (canonT (ctrL F n h (n * n * n))) ↔ ∃ t ∈ ctrL F n h (n * n * n), CorOf t q := fun q => by
    rw [cornersP_mem]
    constructor
    · rintro ⟨t, ht, hc⟩
      obtain ⟨u, hu, rfl⟩ := canon_mem.1 ht
      exact ⟨u, hu, CorOf.rot.1 hc⟩
    · rintro ⟨t, ht, hc⟩
      exact ⟨rotT t, canon_mem.2 ⟨t, ht, rfl⟩, CorOf.rot.2 hc⟩
  have hX : ∀ x y z a, a < 3 → x + (axU a).1 ≤ n → y + (axU a).2.1 ≤ n → z + (axU a).2.2 ≤ n → XG F n x y z a → midG h x y z a ∈ crsN F n h F.length := fun x y z a ha hx hy hz hXG => by
    obtain ⟨e1, e2, e3⟩ := cell_no (n := n + 1) (x := x) (y := y) (z := z) (by omega) (by omega)
    have hk := three_lt (s := n + 1) (x := x) (y := y) (z := z) (by omega) (by omega) (by omega)
    refine mem_cross.2 ⟨(z * (n + 1) + y) * (n + 1) + x, a, by rw [hl]; exact hk, ha, ?_, by unfold midK; rw [e1, e2, e3]⟩
    obtain ⟨g1, g2⟩ := VF_far (F := F) ha hk
    unfold crsB
    rw [g1, g2, e1, e2, e3, Bool.and_eq_true, decide_eq_true_eq, bne_iff_ne]
    refine ⟨?_, hXG⟩
    unfold digA
    have hc : a = 0 ∨ a = 1 ∨ a = 2 := by omega
    rcases hc with rfl | rfl | rfl
    · rw [if_pos rfl, e1]; simp [axU] at hx; omega
    · rw [if_neg (by omega), if_pos rfl, e2]; simp [axU] at hy; omega
    · rw [if_neg (by omega), if_neg (by omega), e3]; simp [axU] at hz; omega
  have hfirst : ∀ p ∈ cornersP (canonT (ctrL F n h (n * n * n))), wholeP h p = 0 ∨ wholeP h p = 2 ∧ p ∈ crsN F n h F.length := fun p hp => by
    obtain ⟨t, ht, hc⟩ := (hmem p).1 hp
    rcases ctr_cor hh ht hc with ⟨c, q, hq, rfl⟩ | ⟨x, y, z, a, ha, hx, hy, hz, hXG, rfl⟩
    · exact .inl (inB_whole hh hq)
    · exact .inr ⟨midG_whole hh ha, hX x y z a ha hx hy hz hXG⟩
  refine ⟨hfirst, ?_⟩
  rw [List.countP_eq_length_filter]
  refine List.Perm.length_eq ((List.perm_ext_iff_of_nodup ((cornersP_nodup _).filter _) (cross_nodup hh _ (by omega))).2 fun p => ?_)
  rw [List.mem_filter, decide_eq_true_eq]
  constructor
  · rintro ⟨hp, hw⟩
    rcases hfirst p hp with h0 | h0
    · omega
    · exact h0.2
  · intro hp
    obtain ⟨k, a, hk, ha, hb, rfl⟩ := mem_cross.1 hp
    have hk' : k < (n + 1) * (n + 1) * (n + 1) := by omega
    obtain ⟨a1, a2, a3, a4⟩ := three_of hk'
    obtain ⟨g1, g2⟩ := VF_far (F := F) ha hk'
    unfold crsB at hb
    rw [g1, g2, Bool.and_eq_true, decide_eq_true_eq, bne_iff_ne] at hb
    obtain ⟨hd, hXG⟩ := hb
    obtain ⟨x, hx⟩ : ∃ x, x = k % (n + 1) := ⟨_, rfl⟩
    obtain ⟨y, hy⟩ : ∃ y, y = k / (n + 1) % (n + 1) := ⟨_, rfl⟩
    obtain ⟨z, hz⟩ : ∃ z, z = k / (n + 1) / (n + 1) := ⟨_, rfl⟩
    unfold digA at hd
    unfold midK
    rw [← hx, ← hy, ← hz] at hd hXG ⊢
    rw [← hx] at a1
    rw [← hy] at a2
    rw [← hz] at a3
    clear hx hy hz a4 g1 g2
    have hin : ∀ x y z, x < n + 1 → y < n + 1 → z < n + 1 → VF F n x y z = true → (0 < x ∧ x < n) ∧ (0 < y ∧ y < n) ∧ (0 < z ∧ z < n) := fun x y z hx hy hz hV => by
      have hlt := three_lt hx hy hz
      have hg := okF_get hok (k := (z * (n + 1) + y) * (n + 1) + x) (by omega) hV
      obtain ⟨e1, e2, e3⟩ := cell_no (n := n + 1) (z := z) hx hy
      have g0 := hg 0 (by omega)
      have g1 := hg 1 (by omega)
      have g2 := hg 2 (by omega)
      unfold badC compK at g0 g1 g2
      simp only [if_true] at g0
      rw [e1] at g0
      simp only [Nat.one_ne_zero, if_false, if_true] at g1
      rw [e2] at g1
      simp only [show ¬ (2 = 0) by omega, show ¬ (2 = 1) by omega, if_false] at g2
      rw [e3] at g2
      simp only [Bool.or_eq_false_iff, beq_eq_false_iff_ne, ne_eq] at g0 g1 g2
      omega
    have hlow : x < n ∧ y < n ∧ z < n := by
      have hc : a = 0 ∨ a = 1 ∨ a = 2 := by omega
      rcases hc with rfl | rfl | rfl
      · simp only [if_true] at hd
        simp only [axU, if_true, Nat.add_zero] at hXG
        cases hv1 : VF F n x y z with
        | true => have := hin x y z a1 a2 a3 hv1; omega
        | false =>
          have hv2 : VF F n (x + 1) y z = true := by cases hv2 : VF F n (x + 1) y z with
            | true => rfl
            | false => rw [hv1, hv2] at hXG; exact absurd rfl hXG
          have := hin (x + 1) y z (by omega) a2 a3 hv2; omega
      · simp only [Nat.one_ne_zero, if_false, if_true] at hd
        simp only [axU, Nat.one_ne_zero, if_false, if_true, Nat.add_zero] at hXG
        cases hv1 : VF F n x y z with
        | true => have := hin x y z a1 a2 a3 hv1; omega
        | false =>
          have hv2 : VF F n x (y + 1) z = true := by cases hv2 : VF F n x (y + 1) z with
            | true => rfl
            | false => rw [hv1, hv2] at hXG; exact absurd rfl hXG
          have := hin x (y + 1) z a1 (by omega) a3 hv2; omega
      · simp only [show ¬ (2 = 0) by omega, show ¬ (2 = 1) by omega, if_false] at hd
        simp only [axU, show ¬ (2 = 0) by omega, show ¬ (2 = 1) by omega, if_false, Nat.add_zero] at hXG
        cases hv1 : VF F n x y z with
        | true => have := hin x y z a1 a2 a3 hv1; omega
        | false =>
          have hv2 : VF F n x y (z + 1) = true := by cases hv2 : VF F n x y (z + 1) with
            | true => rfl
            | false => rw [hv1, hv2] at hXG; exact absurd rfl hXG
          have := hin x y (z + 1) a1 a2 (by omega) hv2; omega
    exact ⟨(hmem _).2 (cor_ctr hh ha hlow.1 hlow.2.1 hlow.2.2 hXG), midG_whole hh ha⟩
end Go.Proofs.Ytfljcgehhnmamaa
