/- Joined texts: CrsP LnkD LnkF LnkG. -/
import Derived.Test.YtfljcgehhnmamaaCB27
import Derived.Test.YtfljcgehhnmamaaCB37
/- Layer 8, plain: the crossings of a field. No program. -/
namespace Go.Proofs.Ytfljcgehhnmamaa
open Go.RowKit
def digA (n k a : Nat) : Nat := if a = 0 then k % (n + 1) else if a = 1 then k / (n + 1) % (n + 1) else k / (n + 1) / (n + 1)
/-- The far end of the edge from vertex k along axis a. -/
def farK (n k a : Nat) : Nat := if a = 0 then (k / (n + 1) / (n + 1) * (n + 1) + k / (n + 1) % (n + 1)) * (n + 1) + (k % (n + 1) + 1) else if a = 1 then (k / (n + 1) / (n + 1) * (n + 1) + (k / (n + 1) % (n + 1) + 1)) * (n + 1) + k % (n + 1) else ((k / (n + 1) / (n + 1) + 1) * (n + 1) + k / (n + 1) % (n + 1)) * (n + 1) + k % (n + 1)
def crsB (F : List Bool) (n k a : Nat) : Bool := decide (digA n k a < n) && (F.getD k false != F.getD (farK n k a) false)
def midK (n : Nat) (h : Int) (k a : Nat) : Pt := midG h (k % (n + 1)) (k / (n + 1) % (n + 1)) (k / (n + 1) / (n + 1)) a
def crsA (F : List Bool) (n : Nat) (h : Int) (k a : Nat) : List Pt := if crsB F n k a = true then [midK n h k a] else []
def crsK (F : List Bool) (n : Nat) (h : Int) (k : Nat) : List Pt := crsA F n h k 0 ++ crsA F n h k 1 ++ crsA F n h k 2
/-- The crossings that the first m vertices begin. -/
def crsN (F : List Bool) (n : Nat) (h : Int) (m : Nat) : List Pt := (List.range m).flatMap (crsK F n h)
theorem crsN_succ (F : List Bool) (n : Nat) (h : Int) (m : Nat) : crsN F n h (m + 1) = crsN F n h m ++ crsA F n h m 0 ++ crsA F n h m 1 ++ crsA F n h m 2 := by
  unfold crsN
  rw [List.range_succ, List.flatMap_append, List.flatMap_singleton, crsK, ← List.append_assoc, ← List.append_assoc]
theorem crsA_few (F : List Bool) (n : Nat) (h : Int) (k a : Nat) : (crsA F n h k a).length ≤ 1 := by
  unfold crsA
  split <;> simp
theorem crsN_few (F : List Bool) (n : Nat) (h : Int) (m : Nat) : (crsN F n h m).length ≤ 3 * m := by
  induction m with
  | zero => simp [crsN]
  | succ m ih =>
    rw [crsN_succ, List.length_append, List.length_append, List.length_append]
    have a0 := crsA_few F n h m 0
    have a1 := crsA_few F n h m 1
    have a2 := crsA_few F n h m 2
    omega
/-- How many coordinates are on the grid. -/
def wholeP (h : Int) (p : Pt) : Nat := (if p.1 % h = 0 then 1 else 0) + (if p.2.1 % h = 0 then 1 else 0) + (if p.2.2 % h = 0 then 1 else 0)
theorem VF_far {F : List Bool} {n k a : Nat} (ha : a < 3) (hk : k < (n + 1) * (n + 1) * (n + 1)) : F.getD k false = VF F n (k % (n + 1)) (k / (n + 1) % (n + 1)) (k / (n + 1) / (n + 1)) ∧ F.getD (farK n k a) false = VF F n (k % (n + 1) + (axU a).1) (k / (n + 1) % (n + 1) + (axU a).2.1) (k / (n + 1) / (n + 1) + (axU a).2.2) := by
  obtain ⟨a1, a2, a3, a4⟩ := three_of hk
  refine ⟨?_, ?_⟩
  · unfold VF; rw [← a4]
  · have hc : a = 0 ∨ a = 1 ∨ a = 2 := by omega
    unfold VF farK
    rcases hc with rfl | rfl | rfl <;> rfl
theorem mem_cross {F : List Bool} {n : Nat} {h : Int} {m : Nat} {p : Pt} : p ∈ crsN F n h m ↔ ∃ k a, k < m ∧ a < 3 ∧ crsB F n k a = true ∧ p = midK n h k a := by
  unfold crsN crsK
  simp only [List.mem_flatMap, List.mem_range, List.mem_append]
  have hA : ∀ k a, p ∈ crsA F n h k a ↔ crsB F n k a = true ∧ p = midK n h k a := fun k a => by
    unfold crsA
    by_cases hb : crsB F n k a = true
    · rw [if_pos hb, List.mem_singleton]; simp [hb]
    · rw [if_neg hb]; simp [hb]
  constructor
  · rintro ⟨k, hk, (h0 | h1) | h2⟩
    · exact ⟨k, 0, hk, by omega, (hA k 0).1 h0⟩
    · exact ⟨k, 1, hk, by omega, (hA k 1).1 h1⟩
    · exact ⟨k, 2, hk, by omega, (hA k 2).1 h2⟩
  · rintro ⟨k, a, hk, ha, hb⟩
    refine ⟨k, hk, ?_⟩
    have hc : a = 0 ∨ a = 1 ∨ a = 2 := by omega
    rcases hc with rfl | rfl | rfl
    · exact .inl (.inl ((hA k 0).2 hb))
    · exact .inl (.inr ((hA k 1).2 hb))
    · exact .inr ((hA k 2).2 hb)
/-- A middle tells its edge. -/
theorem midG_eq {h : Int} (hh : SideH h) {x y z a x' y' z' a' : Nat} (ha : a < 3) (ha' : a' < 3) (e : midG h x y z a = midG h x' y' z' a') : x = x' ∧ y = y' ∧ z = z' ∧ a = a' := by
  unfold midG at e
  simp only [Prod.mk.injEq] at e
  have hc : a = 0 ∨ a = 1 ∨ a = 2 := by omega
  have hc' : a' = 0 ∨ a' = 1 ∨ a' = 2 := by omega
  rcases hh with rfl | rfl | rfl <;> rcases hc with rfl | rfl | rfl <;> rcases hc' with rfl | rfl | rfl <;> simp [axU] at e ⊢ <;> omega
theorem midG_whole {h : Int} (hh : SideH h) {x y z a : Nat} (ha : a < 3) : wholeP h (midG h x y z a) = 2 := by
  have hc : a = 0 ∨ a = 1 ∨ a = 2 := by omega
  unfold wholeP midG
  rcases hh with rfl | rfl | rfl <;> rcases hc with rfl | rfl | rfl <;> simp [axU] <;> (repeat' split) <;> omega
theorem inB_whole {h : Int} (hh : SideH h) {c q : Pt} (hq : InB h q) : wholeP h (addP (c.1 * h, c.2.1 * h, c.2.2 * h) q) = 0 := by
  obtain ⟨h1, h2, h3⟩ := hq
  unfold wholeP addP
  rcases hh with rfl | rfl | rfl <;> dsimp only <;> (rw [if_neg (by omega), if_neg (by omega), if_neg (by omega)])
theorem cross_nodup {F : List Bool} {n : Nat} {h : Int} (hh : SideH h) : ∀ m, m ≤ (n + 1) * (n + 1) * (n + 1) → (crsN F n h m).Nodup
  | 0, _ => by simp [crsN]
  | m + 1, hm => by
    have ih := cross_nodup (F := F) (n := n) hh m (by omega)
    have key : ∀ a, a < 3 → ∀ p, p ∈ crsA F n h m a → p = midK n h m a := fun a _ p hp => by
      unfold crsA at hp
      split at hp
      · exact List.mem_singleton.1 hp
      · cases hp
    have one : ∀ a, (crsA F n h m a).Nodup := fun a => by
      unfold crsA
      split <;> simp
    rw [crsN_succ]
    have hdif : ∀ a b, a < 3 → b < 3 → a ≠ b → midK n h m a ≠ midK n h m b := fun a b ha hb hab e => hab (midG_eq hh ha hb e).2.2.2
    have hold : ∀ a, a < 3 → ∀ p, p ∈ crsN F n h m → p ≠ midK n h m a := fun a ha p hp e => by
      obtain ⟨k, b, hk, hb, _, rfl⟩ := mem_cross.1 hp
      obtain ⟨e1, e2, e3, _⟩ := midG_eq hh hb ha e
      have a4 := (three_of (s := n + 1) (k := k) (by omega)).2.2.2
      have b4 := (three_of (s := n + 1) (k := m) (by omega)).2.2.2
      rw [e1, e2, e3, ← b4] at a4
      omega
    refine List.nodup_append.2 ⟨List.nodup_append.2 ⟨List.nodup_append.2 ⟨ih, one 0, ?_⟩, one 1, ?_⟩, one 2, ?_⟩
    · rintro p hp q hq rfl
      exact hold 0 (by omega) p hp (key 0 (by omega) p hq)
    · rintro p hp q hq rfl
      rcases List.mem_append.1 hp with hp | hp
      · exact hold 1 (by omega) p hp (key 1 (by omega) p hq)
      · exact hdif 0 1 (by omega) (by omega) (by omega) ((key 0 (by omega) p hp).symm.trans (key 1 (by omega) p hq))
    · rintro p hp q hq rfl
      rcases List.mem_append.1 hp with hp | hp
      · rcases List.mem_append.1 hp with hp | hp
        · exact hold 2 (by omega) p hp (key 2 (by omega) p hq)
        · exact hdif 0 2 (by omega) (by omega) (by omega) ((key 0 (by omega) p hp).symm.trans (key 2 (by omega) p hq))
      · exact hdif 1 2 (by omega) (by omega) (by omega) ((key 1 (by omega) p hp).symm.trans (key 2 (by omega) p hq))
/-- The corners of a list, each once: the same points. -/
theorem atP_le (l : List Pt) (p : Pt) : atP l p ≤ l.length := (List.takeWhile_prefix _).length_le
theorem withP_iff {l : List Pt} {p q : Pt} : q ∈ withP l p ↔ q ∈ l ∨ q = p := by
  unfold withP
  split
  · rename_i h
    constructor
    · exact .inl
    · rintro (h1 | rfl)
      · exact h1
      · exact List.mem_of_getElem? h
  · rw [List.mem_append, List.mem_cons]
    have : q ∈ l ↔ q ∈ l.take (atP l p) ∨ q ∈ l.drop (atP l p) := by rw [← List.mem_append, List.take_append_drop]
    rw [this]
    constructor
    · rintro (h | h | h)
      · exact .inl (.inl h)
      · exact .inr h
      · exact .inl (.inr h)
    · rintro ((h | h) | h)
      · exact .inl h
      · exact .inr (.inr h)
      · exact .inr (.inl h)
theorem corN3_mem {l : List Pt} {t : Tri} {q : Pt} : q ∈ corN l t 3 ↔ q ∈ l ∨ CorOf t q := by
  show q ∈ withP (withP (withP l t.1) t.2.1) t.2.2 ↔ _
  rw [withP_iff, withP_iff, withP_iff]
  unfold CorOf
  constructor
  · rintro (((h | h) | h) | h)
    · exact .inl h
    · exact .inr (.inl h)
    · exact .inr (.inr (.inl h))
    · exact .inr (.inr (.inr h))
  · rintro (h | h | h | h)
    · exact .inl (.inl (.inl h))
    · exact .inl (.inl (.inr h))
    · exact .inl (.inr h)
    · exact .inr h
theorem cornersP_mem {ts : List Tri} {q : Pt} : q ∈ cornersP ts ↔ ∃ t ∈ ts, CorOf t q := by
  have key : ∀ (ts : List Tri) (l : List Pt), q ∈ ts.foldl (fun l t => corN l t 3) l ↔ q ∈ l ∨ ∃ t ∈ ts, CorOf t q := by
    intro ts
    induction ts with
    | nil => intro l; simp
    | cons t ts ih =>
      intro l
      rw [List.foldl_cons, ih, corN3_mem]
      simp only [List.mem_cons, exists_eq_or_imp]
      constructor
      · rintro ((h | h) | h)
        · exact .inl h
        · exact .inr (.inl h)
        · exact .inr (.inr h)
      · rintro (h | h | h)
        · exact .inl (.inl h)
        · exact .inl (.inr h)
        · exact .inr h
  unfold cornersP
  rw [key]
  simp
/-- Sorted strictly. -/
def SortedP (l : List Pt) : Prop := l.Pairwise fun a b => ltP a b = true
theorem atP_cons (a : Pt) (l : List Pt) (p : Pt) : atP (a :: l) p = if ltP a p = true then atP l p + 1 else 0 := by
  unfold atP
  rw [List.takeWhile_cons]
  split <;> rfl
theorem atP_spec : ∀ (l : List Pt) (p : Pt), (∀ x ∈ l.take (atP l p), ltP x p = true) ∧ ∀ x, l[atP l p]? = some x → ltP x p = false
  | [], p => ⟨by simp, by simp⟩
  | a :: l, p => by
    have ih := atP_spec l p
    rw [atP_cons]
    by_cases h : ltP a p = true
    · rw [if_pos h]
      refine ⟨fun x hx => ?_, fun x hx => ?_⟩
      · rw [List.take_succ_cons] at hx
        rcases List.mem_cons.1 hx with rfl | hx
        · exact h
        · exact ih.1 x hx
      · rw [List.getElem?_cons_succ] at hx
        exact ih.2 x hx
    · rw [if_neg h]
      refine ⟨by simp, fun x hx => ?_⟩
      simp only [List.getElem?_cons_zero, Option.some.injEq] at hx
      rw [← hx]
      simpa using h
theorem withP_sorted {l : List Pt} (h : SortedP l) (p : Pt) : SortedP (withP l p) := by
  unfold withP
  split
  · exact h
  · rename_i hne
    have hlo := (atP_spec l p).1
    have hhi : ∀ x ∈ l.drop (atP l p), ltP p x = true := fun x hx => by
      obtain ⟨j, hj⟩ := List.mem_iff_getElem?.1 hx
      rw [List.getElem?_drop] at hj
      obtain ⟨hlt, ej⟩ := List.getElem?_eq_some_iff.1 hj
      have hi : atP l p < l.length := by omega
      have h0 : ltP l[atP l p] p = false := (atP_spec l p).2 _ (List.getElem?_eq_getElem hi)
      have hn : l[atP l p] ≠ p := fun e => hne (by rw [List.getElem?_eq_getElem hi, e])
      have h1 : ltP p l[atP l p] = true := by
        cases hb : ltP p l[atP l p] with
        | true => rfl
        | false => exact absurd (sto_P.total _ _ h0 hb) hn
      rcases Nat.eq_zero_or_pos j with rfl | hj0
      · simp only [Nat.add_zero] at ej; rw [← ej]; exact h1
      · have := List.pairwise_iff_getElem.1 h (atP l p) (atP l p + j) hi hlt (by omega)
        rw [ej] at this
        exact sto_P.trans _ _ _ h1 this
    refine List.pairwise_append.2 ⟨h.sublist (List.take_sublist _ _), List.pairwise_cons.2 ⟨hhi, h.sublist (List.drop_sublist _ _)⟩, fun a ha b hb => ?_⟩
    rcases List.mem_cons.1 hb with rfl | hb
    · exact hlo a ha
    · exact sto_P.trans _ _ _ (hlo a ha) (hhi b hb)
theorem cornersP_sorted (ts : List Tri) : SortedP (cornersP ts) := by
  have key : ∀ (ts : List Tri) (l : List Pt), SortedP l → SortedP (ts.foldl (fun l t => corN l t 3) l) := by
    intro ts
    induction ts with
    | nil => intro l h; exact h
    | cons t ts ih =>
      intro l h
      exact ih _ (withP_sorted (withP_sorted (withP_sorted h _) _) _)
  exact key ts [] List.Pairwise.nil
theorem cornersP_nodup (ts : List Tri) : (cornersP ts).Nodup := (cornersP_sorted ts).imp fun h e => by rw [e, sto_P.irrefl] at h; cases h
/-- The law: the corners on edges are the crossings, all others lie strictly inside of cells. -/
theorem cross_law {l : Nat} {F : List Bool} (h1 : 1 ≤ l) (h3 : l ≤ 3) (hv : validF l F = true) :
    (∀ p ∈ cornersP (contourP l F), wholeP ((2 ^ (21 - l) : Nat) : Int) p = 0 ∨ wholeP ((2 ^ (21 - l) : Nat) : Int) p = 2 ∧ p ∈ crsN F (2 ^ l) ((2 ^ (21 - l) : Nat) : Int) F.length) ∧
    (cornersP (contourP l F)).countP (fun p => decide (wholeP ((2 ^ (21 - l) : Nat) : Int) p = 2)) = (crsN F (2 ^ l) ((2 ^ (21 - l) : Nat) : Int) F.length).length := by
  have hh : SideH ((2 ^ (21 - l) : Nat) : Int) := sideE h1 h3
  obtain ⟨hl, hok⟩ := valid_parts hv
  rw [contour_lvl hv]
  obtain ⟨h, hhe⟩ : ∃ h : Int, h = ((2 ^ (21 - l) : Nat) : Int) := ⟨_, rfl⟩
  rw [← hhe] at hh ⊢
  obtain ⟨n, hn⟩ : ∃ n, n = 2 ^ l := ⟨_, rfl⟩
  rw [← hn] at hl hok ⊢
  have hmem : ∀ q, q ∈ cornersP (canonT (ctrL F n h (n * n * n))) ↔ ∃ t ∈ ctrL F n h (n * n * n), CorOf t q := fun q => by
    rw [cornersP_mem]
    constructor
    · rintro ⟨t, ht, hc⟩
      obtain ⟨u, hu, rfl⟩ := canon_mem.1 ht
      exact ⟨u, hu, CorOf.rot.1 hc⟩
    · rintro ⟨t, ht, hc⟩
      exact ⟨rotT t, canon_mem.2 ⟨t, ht, rfl⟩, CorOf.rot.2 hc⟩
  have hX : ∀ x y z a, a < 3 → x + (axU a).1 ≤ n → y + (axU a).2.1 ≤ n → z + (axU a).2.2 ≤ n → XG F n x y z a → midG h x y z a ∈ crsN F n h F.length := fun x y z a ha hx hy hz hXG => by
    obtain ⟨e1, e2, e3⟩ := cell_no (n := n + 1) (x := x) (y := y) (z := z) (by omega) (by omega)
    have hk := three_lt (s := n + 1) (x := x) (y := y) (z := z) (by omega) (by omega) (by omega)
    refine mem_cross.2 ⟨(z * (n + 1) + y) * (n + 1) + x, a, by rw [hl]; exact hk, ha, ?_, by unfold midK; rw [e1, e2, e3]⟩
    obtain ⟨g1, g2⟩ := VF_far (F := F) ha hk
    unfold crsB
    rw [g1, g2, e1, e2, e3, Bool.and_eq_true, decide_eq_true_eq, bne_iff_ne]
    refine ⟨?_, hXG⟩
    unfold digA
    have hc : a = 0 ∨ a = 1 ∨ a = 2 := by omega
    rcases hc with rfl | rfl | rfl
    · rw [if_pos rfl, e1]; simp [axU] at hx; omega
    · rw [if_neg (by omega), if_pos rfl, e2]; simp [axU] at hy; omega
    · rw [if_neg (by omega), if_neg (by omega), e3]; simp [axU] at hz; omega
  have hfirst : ∀ p ∈ cornersP (canonT (ctrL F n h (n * n * n))), wholeP h p = 0 ∨ wholeP h p = 2 ∧ p ∈ crsN F n h F.length := fun p hp => by
    obtain ⟨t, ht, hc⟩ := (hmem p).1 hp
    rcases ctr_cor hh ht hc with ⟨c, q, hq, rfl⟩ | ⟨x, y, z, a, ha, hx, hy, hz, hXG, rfl⟩
    · exact .inl (inB_whole hh hq)
    · exact .inr ⟨midG_whole hh ha, hX x y z a ha hx hy hz hXG⟩
  refine ⟨hfirst, ?_⟩
  rw [List.countP_eq_length_filter]
  refine List.Perm.length_eq ((List.perm_ext_iff_of_nodup ((cornersP_nodup _).filter _) (cross_nodup hh _ (by omega))).2 fun p => ?_)
  rw [List.mem_filter, decide_eq_true_eq]
  constructor
  · rintro ⟨hp, hw⟩
    rcases hfirst p hp with h0 | h0
    · omega
    · exact h0.2
  · intro hp
    obtain ⟨k, a, hk, ha, hb, rfl⟩ := mem_cross.1 hp
    have hk' : k < (n + 1) * (n + 1) * (n + 1) := by omega
    obtain ⟨a1, a2, a3, a4⟩ := three_of hk'
    obtain ⟨g1, g2⟩ := VF_far (F := F) ha hk'
    unfold crsB at hb
    rw [g1, g2, Bool.and_eq_true, decide_eq_true_eq, bne_iff_ne] at hb
    obtain ⟨hd, hXG⟩ := hb
    obtain ⟨x, hx⟩ : ∃ x, x = k % (n + 1) := ⟨_, rfl⟩
    obtain ⟨y, hy⟩ : ∃ y, y = k / (n + 1) % (n + 1) := ⟨_, rfl⟩
    obtain ⟨z, hz⟩ : ∃ z, z = k / (n + 1) / (n + 1) := ⟨_, rfl⟩
    unfold digA at hd
    unfold midK
    rw [← hx, ← hy, ← hz] at hd hXG ⊢
    rw [← hx] at a1
    rw [← hy] at a2
    rw [← hz] at a3
    clear hx hy hz a4 g1 g2
    have hin : ∀ x y z, x < n + 1 → y < n + 1 → z < n + 1 → VF F n x y z = true → (0 < x ∧ x < n) ∧ (0 < y ∧ y < n) ∧ (0 < z ∧ z < n) := fun x y z hx hy hz hV => by
      have hlt := three_lt hx hy hz
      have hg := okF_get hok (k := (z * (n + 1) + y) * (n + 1) + x) (by omega) hV
      obtain ⟨e1, e2, e3⟩ := cell_no (n := n + 1) (z := z) hx hy
      have g0 := hg 0 (by omega)
      have g1 := hg 1 (by omega)
      have g2 := hg 2 (by omega)
      unfold badC compK at g0 g1 g2
      simp only [if_true] at g0
      rw [e1] at g0
      simp only [Nat.one_ne_zero, if_false, if_true] at g1
      rw [e2] at g1
      simp only [show ¬ (2 = 0) by omega, show ¬ (2 = 1) by omega, if_false] at g2
      rw [e3] at g2
      simp only [Bool.or_eq_false_iff, beq_eq_false_iff_ne, ne_eq] at g0 g1 g2
      omega
    have hlow : x < n ∧ y < n ∧ z < n := by
      have hc : a = 0 ∨ a = 1 ∨ a = 2 := by omega
      rcases hc with rfl | rfl | rfl
      · simp only [if_true] at hd
        simp only [axU, if_true, Nat.add_zero] at hXG
        cases hv1 : VF F n x y z with
        | true => have := hin x y z a1 a2 a3 hv1; omega
        | false =>
          have hv2 : VF F n (x + 1) y z = true := by cases hv2 : VF F n (x + 1) y z with
            | true => rfl
            | false => rw [hv1, hv2] at hXG; exact absurd rfl hXG
          have := hin (x + 1) y z (by omega) a2 a3 hv2; omega
      · simp only [Nat.one_ne_zero, if_false, if_true] at hd
        simp only [axU, Nat.one_ne_zero, if_false, if_true, Nat.add_zero] at hXG
        cases hv1 : VF F n x y z with
        | true => have := hin x y z a1 a2 a3 hv1; omega
        | false =>
          have hv2 : VF F n x (y + 1) z = true := by cases hv2 : VF F n x (y + 1) z with
            | true => rfl
            | false => rw [hv1, hv2] at hXG; exact absurd rfl hXG
          have := hin x (y + 1) z a1 (by omega) a3 hv2; omega
      · simp only [show ¬ (2 = 0) by omega, show ¬ (2 = 1) by omega, if_false] at hd
        simp only [axU, show ¬ (2 = 0) by omega, show ¬ (2 = 1) by omega, if_false, Nat.add_zero] at hXG
        cases hv1 : VF F n x y z with
        | true => have := hin x y z a1 a2 a3 hv1; omega
        | false =>
          have hv2 : VF F n x y (z + 1) = true := by cases hv2 : VF F n x y (z + 1) with
            | true => rfl
            | false => rw [hv1, hv2] at hXG; exact absurd rfl hXG
          have := hin x y (z + 1) a1 a2 (by omega) hv2; omega
    exact ⟨(hmem _).2 (cor_ctr hh ha hlow.1 hlow.2.1 hlow.2.2 hXG), midG_whole hh ha⟩
end Go.Proofs.Ytfljcgehhnmamaa
/- Layer 8, plain: the edges of a cell's triangles, by faces; the links of their corners. No program. -/
namespace Go.Proofs.Ytfljcgehhnmamaa
open Go.RowKit
/-- The triangles at p: the corner behind p, and the one behind that. -/
def lk1 (t : Tri) (p : Pt) : List (Pt × Pt) := (if t.1 = p then [(t.2.1, t.2.2)] else []) ++ ((if t.2.1 = p then [(t.2.2, t.1)] else []) ++ (if t.2.2 = p then [(t.1, t.2.1)] else []))
def lkP (ts : List Tri) (p : Pt) : List (Pt × Pt) := ts.flatMap fun t => lk1 t p
/-- Twice the middle of an edge. -/
def mid2 (e : Ed) : Pt := addP e.1 e.2
def cellEd (l : List Bool) (h : Int) : List Ed := edgesP (cellTs l (0, 0, 0) h)
/-- The joins of a face, as edges. -/
def faceG (l : List Bool) (h : Int) (a : Nat) (pos : Bool) : List Ed := (faceJ (insL l) a pos).map fun x => (pointP (0, 0, 0) h x.1, pointP (0, 0, 0) h x.2)
def onF (h : Int) (e : Ed) (a : Nat) (pos : Bool) : Bool := decide (compP (mid2 e) a = if pos then 2 * h else 0)
def inF (h : Int) (e : Ed) (a : Nat) : Bool := decide (0 < compP (mid2 e) a) && decide (compP (mid2 e) a < 2 * h)
/-- An edge lies strictly inside of the cell, or in one face. -/
def edOk (h : Int) (l : List Bool) (es : List Ed) (e : Ed) : Bool :=
  if inF h e 0 then
    if inF h e 1 then
      if inF h e 2 then es.contains (swapE e)
      else (onF h e 2 false && (faceG l h 2 false).contains e) || (onF h e 2 true && (faceG l h 2 true).contains e)
    else inF h e 2 && ((onF h e 1 false && (faceG l h 1 false).contains e) || (onF h e 1 true && (faceG l h 1 true).contains e))
  else inF h e 1 && inF h e 2 && ((onF h e 0 false && (faceG l h 0 false).contains e) || (onF h e 0 true && (faceG l h 0 true).contains e))
def facesOk (h : Int) (l : List Bool) (es : List Ed) : Bool := (List.range 3).all fun a => ((faceG l h a false).all fun e => es.contains e && onF h e a false) && ((faceG l h a true).all fun e => es.contains e && onF h e a true)
def nodupB {α : Type} [BEq α] : List α → Bool
  | [] => true
  | x :: l => !l.contains x && nodupB l
def edChk (h : Int) (l : List Bool) : Bool :=
  let es := cellEd l h
  nodupB es && (es.all (edOk h l es) && facesOk h l es)
/-- Where q lies as seen from p, by signs. -/
def sgnI (x : Int) : Int := if 0 < x then 1 else if x < 0 then -1 else 0
def dirP (a : Nat) (p q : Pt) : Int × Int := (sgnI (compP q ((a + 1) % 3) - compP p ((a + 1) % 3)), sgnI (compP q ((a + 2) % 3) - compP p ((a + 2) % 3)))
/-- The direction from which the link of an edge's crossing comes, in the cell where the edge has the bits b, d. -/
def dirA (b d s : Bool) : Int × Int := match b, d, s with
  | false, false, true => (1, 0)
  | true, false, true => (0, 1)
  | true, true, true => (-1, 0)
  | false, true, true => (0, -1)
  | false, false, false => (0, 1)
  | true, false, false => (-1, 0)
  | true, true, false => (0, -1)
  | false, true, false => (1, 0)
def dirC (b d : Bool) : Int × Int := (if b then -1 else 1, if d then -1 else 1)
def lkOk (h : Int) (l : List Bool) (ts : List Tri) (e : Nat × Nat) : Bool :=
  let p := xPt h e
  let b := decide (e.1 / 2 ^ ((e.2 + 1) % 3) % 2 = 1)
  let d := decide (e.1 / 2 ^ ((e.2 + 2) % 3) % 2 = 1)
  let s := insL l e.1
  match lkP ts p with
  | [x] => decide (dirP e.2 p x.1 = dirA b d s) && decide (dirP e.2 p x.2 = dirA b d !s)
  | [x, y] => (decide (x.2 = y.1) && decide (dirP e.2 p x.1 = dirA b d s) && decide (dirP e.2 p x.2 = dirC b d) && decide (dirP e.2 p y.2 = dirA b d !s)) ||
     (decide (y.2 = x.1) && decide (dirP e.2 p y.1 = dirA b d s) && decide (dirP e.2 p y.2 = dirC b d) && decide (dirP e.2 p x.2 = dirA b d !s))
  | _ => false
/-- The link's points, from the first pair on. -/
def ringB (L : List (Pt × Pt)) : Bool :=
  nodupB (L.map (·.1)) && (L.zip (L.drop 1)).all (fun x => decide (x.1.2 = x.2.1)) && decide ((L.getLast?.map (·.2)) = (L.head?.map (·.1)))
def lkChk (h : Int) (l : List Bool) : Bool :=
  let ts := cellTs l (0, 0, 0) h
  (xEdges l).all (lkOk h l ts) && ts.all fun t => (!inB h t.1 || ringB (lkP ts t.1)) && ((!inB h t.2.1 || ringB (lkP ts t.2.1)) && (!inB h t.2.2 || ringB (lkP ts t.2.2)))
end Go.Proofs.Ytfljcgehhnmamaa
/- Layer 8, plain: the joins of a face that two cells share. No program. -/
namespace Go.Proofs.Ytfljcgehhnmamaa
open Go.RowKit
theorem crossN_congr {ins ins' : Nat → Bool} {a : Nat} {pos : Bool} (h : ∀ k, ins (ringV a pos k) = ins' (ringV a pos k)) (k : Nat) : crossN ins a pos k = crossN ins' a pos k := by
  unfold crossN
  simp only [h]
theorem lastIn_congr {ins ins' : Nat → Bool} {a : Nat} {pos : Bool} (h : ∀ k, ins (ringV a pos k) = ins' (ringV a pos k)) : ∀ k, lastIn ins a pos k = lastIn ins' a pos k
  | 0 => rfl
  | k + 1 => by
    unfold lastIn
    rw [h k, lastIn_congr h k]
theorem fourN_congr {ins ins' : Nat → Bool} {a : Nat} {pos : Bool} (h : ∀ k, ins (ringV a pos k) = ins' (ringV a pos k)) (k : Nat) : fourN ins a pos k = fourN ins' a pos k := by
  unfold fourN
  simp only [h]
theorem faceJ_congr {ins ins' : Nat → Bool} {a : Nat} {pos : Bool} (h : ∀ k, ins (ringV a pos k) = ins' (ringV a pos k)) : faceJ ins a pos = faceJ ins' a pos := by
  unfold faceJ
  rw [crossN_congr h, lastIn_congr h, fourN_congr h]
/-- A face's joins by its four vertices. -/
def embF (a : Nat) (pos : Bool) (b : List Bool) (v : Nat) : Bool := (List.range 4).any fun j => decide (ringV a pos j = v) && b.getD j false
def fJ (a : Nat) (pos : Bool) (b : List Bool) : List (Pt × Pt) := faceJ (embF a pos b) a pos
def bits4 (ins : Nat → Bool) (a : Nat) (pos : Bool) : List Bool := (List.range 4).map fun j => ins (ringV a pos j)
theorem ringV_four (a : Nat) (pos : Bool) (k : Nat) : ringV a pos k = ringV a pos (k % 4) := by
  unfold ringV
  rw [Nat.mod_mod]
theorem embF_at {a : Nat} (ha : a < 3) (pos : Bool) (ins : Nat → Bool) (k : Nat) : embF a pos (bits4 ins a pos) (ringV a pos k) = ins (ringV a pos k) := by
  have h3 : a = 0 ∨ a = 1 ∨ a = 2 := by omega
  have hk : k % 4 = 0 ∨ k % 4 = 1 ∨ k % 4 = 2 ∨ k % 4 = 3 := by omega
  rw [ringV_four a pos k]
  rcases h3 with rfl | rfl | rfl <;> rcases hk with h | h | h | h <;> rw [h] <;> cases pos <;> simp [embF, bits4, ringV, List.range_succ]
theorem faceJ_emb {a : Nat} (ha : a < 3) (pos : Bool) (ins : Nat → Bool) : faceJ ins a pos = fJ a pos (bits4 ins a pos) := faceJ_congr fun k => (embF_at ha pos ins k).symm
def axP (a : Nat) (x : Int) : Pt := if a = 0 then (x, 0, 0) else if a = 1 then (0, x, 0) else (0, 0, x)
/-- A join as the upper cell's neighbour below sees it. -/
def swSh (a : Nat) (x : Pt × Pt) : Pt × Pt := (addP (axP a 2) x.2, addP (axP a 2) x.1)
theorem fJ_shift {a : Nat} (ha : a < 3) {b : List Bool} (hb : b.length = 4) : fJ a true b = (fJ a false b).map (swSh a) := by
  have key : ((List.range 3).all fun a => (allL 4).all fun b => decide (fJ a true b = (fJ a false b).map (swSh a))) = true := by decide +kernel
  exact of_decide_eq_true (List.all_eq_true.1 (List.all_eq_true.1 key a (List.mem_range.2 ha)) b (mem_allL 4 b hb))
theorem fJ_anti {a : Nat} (ha : a < 3) {b : List Bool} (hb : b.length = 4) {x : Pt × Pt} (hx : x ∈ fJ a false b) : (x.2, x.1) ∉ fJ a false b := by
  have key : ((List.range 3).all fun a => (allL 4).all fun b => (fJ a false b).all fun x => !(fJ a false b).contains (x.2, x.1)) = true := by decide +kernel
  have := List.all_eq_true.1 (List.all_eq_true.1 (List.all_eq_true.1 key a (List.mem_range.2 ha)) b (mem_allL 4 b hb)) x hx
  intro hm
  rw [List.contains_iff_mem.2 hm] at this
  cases this
theorem fJ_none {a : Nat} (ha : a < 3) (pos : Bool) : fJ a pos [false, false, false, false] = [] := by
  have h3 : a = 0 ∨ a = 1 ∨ a = 2 := by omega
  rcases h3 with rfl | rfl | rfl <;> cases pos <;> decide +kernel
theorem bits4_length (ins : Nat → Bool) (a : Nat) (pos : Bool) : (bits4 ins a pos).length = 4 := by simp [bits4]
/-! As edges. -/
def shE (v : Pt) (e : Ed) : Ed := (addP v e.1, addP v e.2)
theorem addP_cancel (v : Pt) {p q : Pt} (h : addP v p = addP v q) : p = q := by
  obtain ⟨a, b, c⟩ := p
  obtain ⟨d, e, f⟩ := q
  simp only [addP, Prod.mk.injEq] at h ⊢
  omega
theorem shE_inj (v : Pt) {e f : Ed} (h : shE v e = shE v f) : e = f := by
  obtain ⟨a, b⟩ := e
  obtain ⟨c, d⟩ := f
  simp only [shE, Prod.mk.injEq] at h
  rw [addP_cancel v h.1, addP_cancel v h.2]
theorem pointP_ax {h : Int} (hh : SideH h) (a : Nat) (p : Pt) : pointP (0, 0, 0) h (addP (axP a 2) p) = addP (axP a h) (pointP (0, 0, 0) h p) := by
  have e : 2 * (h / 2) = h := by rcases hh with rfl | rfl | rfl <;> decide
  unfold axP
  split
  · simp only [pointP, addP, Int.add_mul, e]; simp
  · split
    · simp only [pointP, addP, Int.add_mul, e]; simp
    · simp only [pointP, addP, Int.add_mul, e]; simp
theorem faceG_shift {h : Int} (hh : SideH h) {l l' : List Bool} {a : Nat} (ha : a < 3) (hb : ∀ j, j < 4 → insL l' (ringV a true j) = insL l (ringV a false j)) : faceG l' h a true = (faceG l h a false).map fun e => shE (axP a h) (swapE e) := by
  have e4 : bits4 (insL l') a true = bits4 (insL l) a false := List.map_congr_left fun j hj => hb j (List.mem_range.1 hj)
  unfold faceG
  rw [faceJ_emb ha true (insL l'), faceJ_emb ha false (insL l), e4, fJ_shift ha (bits4_length _ _ _), List.map_map, List.map_map]
  refine List.map_congr_left fun x _ => ?_
  simp only [Function.comp, swSh, shE, swapE, pointP_ax hh]
theorem faceG_anti {h : Int} (hh : SideH h) {l : List Bool} {a : Nat} (ha : a < 3) {e : Ed} (he : e ∈ faceG l h a false) : swapE e ∉ faceG l h a false := by
  unfold faceG at he ⊢
  rw [faceJ_emb ha false (insL l)] at he ⊢
  obtain ⟨x, hx, rfl⟩ := List.mem_map.1 he
  intro hm
  obtain ⟨y, hy, e⟩ := List.mem_map.1 hm
  simp only [swapE, Prod.mk.injEq] at e
  have e1 := pointP_inj hh.pos e.1
  have e2 := pointP_inj hh.pos e.2
  have hxy : y = (x.2, x.1) := Prod.ext e1 e2
  rw [hxy] at hy
  exact fJ_anti ha (bits4_length _ _ _) hx hy
theorem faceG_none {h : Int} {l : List Bool} {a : Nat} (ha : a < 3) {pos : Bool} (hb : ∀ j, j < 4 → insL l (ringV a pos j) = false) : faceG l h a pos = [] := by
  have e4 : bits4 (insL l) a pos = [false, false, false, false] := by
    unfold bits4
    simp only [List.range_succ, List.range_zero, List.nil_append, List.cons_append, List.map_cons, List.map_nil, hb 0 (by omega), hb 1 (by omega), hb 2 (by omega), hb 3 (by omega)]
  unfold faceG
  rw [faceJ_emb ha pos (insL l), e4, fJ_none ha pos]
  rfl
end Go.Proofs.Ytfljcgehhnmamaa
/- Layer 8, plain: when Check finds nothing: edges once and both ways, the link of each corner one ring. No program. -/
namespace Go.Proofs.Ytfljcgehhnmamaa
open Go.RowKit
/-- From A along pairs to B. -/
def PathL : Pt → List (Pt × Pt) → Pt → Prop
  | A, [], B => A = B
  | A, x :: L, B => x.1 = A ∧ PathL x.2 L B
theorem PathL.app : ∀ {A B C : Pt} {L M : List (Pt × Pt)}, PathL A L B → PathL B M C → PathL A (L ++ M) C
  | _, _, _, [], _, h, k => by cases h; exact k
  | _, _, _, _ :: _, _, h, k => ⟨h.1, PathL.app h.2 k⟩
def nthL (L : List (Pt × Pt)) (i : Nat) : Pt × Pt := L.getD i ((0, 0, 0), (0, 0, 0))
theorem PathL.link : ∀ {A B : Pt} {L : List (Pt × Pt)}, PathL A L B → ∀ i, i < L.length → (nthL L i).2 = if i + 1 < L.length then (nthL L (i + 1)).1 else B
  | _, _, [x], h, 0, _ => h.2
  | _, _, x :: y :: L, h, 0, _ => h.2.1.symm
  | _, _, x :: y :: L, h, i + 1, hi => by
    have := PathL.link h.2 i (by simpa using hi)
    simp only [nthL, List.getD_cons_succ, List.length_cons, Nat.add_lt_add_iff_right] at this ⊢
    exact this
theorem PathL.first {A B : Pt} {L : List (Pt × Pt)} (h : PathL A L B) (h0 : L ≠ []) : (nthL L 0).1 = A := by
  cases L with
  | nil => exact absurd rfl h0
  | cons x L => exact h.1
/-- One ring. -/
def RingL (L : List (Pt × Pt)) : Prop := L ≠ [] ∧ (L.map (·.1)).Nodup ∧ ∃ A, PathL A L A
theorem RingL.next {L : List (Pt × Pt)} (h : RingL L) {i : Nat} (hi : i < L.length) : (nthL L i).2 = (nthL L ((i + 1) % L.length)).1 := by
  obtain ⟨h0, _, A, hp⟩ := h
  rw [hp.link i hi]
  split
  · rename_i h1
    rw [Nat.mod_eq_of_lt h1]
  · have e : i + 1 = L.length := by omega
    rw [e, Nat.mod_self, hp.first h0]
theorem nthL_mem {L : List (Pt × Pt)} {i : Nat} (hi : i < L.length) : nthL L i ∈ L := by
  unfold nthL
  rw [List.getD_eq_getElem?_getD, List.getElem?_eq_getElem hi]
  exact List.getElem_mem hi
theorem RingL.inj {L : List (Pt × Pt)} (h : RingL L) {i j : Nat} (hi : i < L.length) (hj : j < L.length) (e : (nthL L i).1 = (nthL L j).1) : i = j := by
  have hl : (L.map (·.1)).length = L.length := List.length_map _
  refine nd_inj h.2.1 (by rw [hl]; exact hi) (by rw [hl]; exact hj) ?_
  unfold nthL at e
  rw [List.getD_eq_getElem?_getD, List.getD_eq_getElem?_getD, List.getElem?_eq_getElem hi, List.getElem?_eq_getElem hj] at e
  simpa using e
theorem mem_nthL {L : List (Pt × Pt)} {x : Pt × Pt} (h : x ∈ L) : ∃ i, i < L.length ∧ nthL L i = x := by
  obtain ⟨i, hi⟩ := List.mem_iff_getElem?.1 h
  have hl : i < L.length := (List.getElem?_eq_some_iff.1 hi).1
  refine ⟨i, hl, ?_⟩
  unfold nthL
  rw [List.getD_eq_getElem?_getD, hi]
  rfl
/-! Links and what Check asks. -/
theorem mem_lk1 {t : Tri} {p q r : Pt} : (q, r) ∈ lk1 t p ↔ (t.1 = p ∧ t.2.1 = q ∧ t.2.2 = r) ∨ (t.2.1 = p ∧ t.2.2 = q ∧ t.1 = r) ∨ (t.2.2 = p ∧ t.1 = q ∧ t.2.1 = r) := by
  have key : ∀ (c : Prop) [Decidable c] (a b : Pt), (q, r) ∈ (if c then [(a, b)] else []) ↔ c ∧ a = q ∧ b = r := fun c _ a b => by
    by_cases h : c
    · rw [if_pos h, List.mem_singleton]
      simp only [Prod.mk.injEq, h, true_and]
      exact ⟨fun e => ⟨e.1.symm, e.2.symm⟩, fun e => ⟨e.1.symm, e.2.symm⟩⟩
    · rw [if_neg h]
      simp [h]
  unfold lk1
  rw [List.mem_append, List.mem_append, key, key, key]
theorem behK_lk {t : Tri} (hd : distT8 t) {p x y : Pt} : behK t p x = some y ↔ (x, y) ∈ lk1 t p := by
  rw [mem_lk1]
  obtain ⟨h1, h2, h3⟩ := hd
  unfold behK
  by_cases a1 : t.1 = p
  · have n2 : t.2.1 ≠ p := fun e => h1 (a1.trans e.symm)
    have n3 : t.2.2 ≠ p := fun e => h3 (e.trans a1.symm)
    by_cases b1 : t.2.1 = x
    · rw [if_pos ⟨a1, b1⟩]
      constructor
      · intro h; cases h; exact .inl ⟨a1, b1, rfl⟩
      · rintro (h | h | h)
        · exact congrArg some h.2.2
        · exact absurd h.1 n2
        · exact absurd h.1 n3
    · rw [if_neg (fun h => b1 h.2), if_neg (fun h => n2 h.1), if_neg (fun h => n3 h.1)]
      simp [n2, n3, b1]
  · rw [if_neg (fun h => a1 h.1)]
    by_cases a2 : t.2.1 = p
    · have n3 : t.2.2 ≠ p := fun e => h2 (a2.trans e.symm)
      by_cases b2 : t.2.2 = x
      · rw [if_pos ⟨a2, b2⟩]
        constructor
        · intro h; cases h; exact .inr (.inl ⟨a2, b2, rfl⟩)
        · rintro (h | h | h)
          · exact absurd h.1 a1
          · exact congrArg some h.2.2
          · exact absurd h.1 n3
      · rw [if_neg (fun h => b2 h.2), if_neg (fun h => n3 h.1)]
        simp [a1, n3, b2]
    · rw [if_neg (fun h => a2 h.1)]
      by_cases a3 : t.2.2 = p ∧ t.1 = x
      · rw [if_pos a3]
        constructor
        · intro h; cases h; exact .inr (.inr ⟨a3.1, a3.2, rfl⟩)
        · rintro (h | h | h)
          · exact absurd h.1 a1
          · exact absurd h.1 a2
          · exact congrArg some h.2.2
      · rw [if_neg a3]
        constructor
        · intro h; cases h
        · rintro (h | h | h)
          · exact absurd h.1 a1
          · exact absurd h.1 a2
          · exact absurd ⟨h.1, h.2.1⟩ a3
theorem pinN3 (t : Tri) (p : Pt) : pinN t p 3 = (lk1 t p).map fun x => (t, x.1) := by
  have e : pinN t p 3 = (if t.1 = p then [(t, t.2.1)] else []) ++ ((if t.2.1 = p then [(t, t.2.2)] else []) ++ (if t.2.2 = p then [(t, t.1)] else [])) := by
    unfold pinN
    simp [List.range_succ, corner]
  rw [e]
  unfold lk1
  rw [List.map_append, List.map_append]
  congr 1
  · split <;> rfl
  · congr 1 <;> (split <;> rfl)
theorem pinL_lk (l : List Tri) (p : Pt) : (pinL l p).map (·.2) = (lkP l p).map (·.1) := by
  unfold pinL lkP
  rw [List.map_flatMap, List.map_flatMap]
  congr 1
  funext t
  rw [pinN3, List.map_map]
  rfl
theorem pinL_mine {l : List Tri} {p : Pt} {t : Tri} : t ∈ (pinL l p).map (·.1) ↔ t ∈ l ∧ lk1 t p ≠ [] := by
  unfold pinL
  rw [List.map_flatMap, List.mem_flatMap]
  constructor
  · rintro ⟨u, hu, h⟩
    rw [pinN3, List.map_map] at h
    obtain ⟨x, hx, rfl⟩ := List.mem_map.1 h
    exact ⟨hu, List.ne_nil_of_mem hx⟩
  · rintro ⟨ht, h⟩
    refine ⟨t, ht, ?_⟩
    rw [pinN3, List.map_map]
    obtain ⟨x, hx⟩ := List.exists_mem_of_ne_nil _ h
    exact List.mem_map.2 ⟨x, hx, rfl⟩
theorem beh_ring {l : List Tri} {p : Pt} (hd : ∀ t ∈ l, distT8 t) {L : List (Pt × Pt)} (hp : L.Perm (lkP l p)) (hn : (L.map (·.1)).Nodup) {x y : Pt} (h : (x, y) ∈ L) : behP ((pinL l p).map (·.1)) p x = some y := by
  have fun_ : ∀ y', (x, y') ∈ L → y' = y := fun y' h' => by
    obtain ⟨i, hi, ei⟩ := mem_nthL h
    obtain ⟨j, hj, ej⟩ := mem_nthL h'
    have hl : (L.map (·.1)).length = L.length := List.length_map _
    have e : i = j := by
      refine nd_inj hn (by rw [hl]; exact hi) (by rw [hl]; exact hj) ?_
      unfold nthL at ei ej
      rw [List.getD_eq_getElem?_getD, List.getElem?_eq_getElem hi] at ei
      rw [List.getD_eq_getElem?_getD, List.getElem?_eq_getElem hj] at ej
      simp only [Option.getD_some] at ei ej
      simp [ei, ej]
    subst e
    rw [ei] at ej
    cases ej; rfl
  obtain ⟨t, ht, hx⟩ := List.mem_flatMap.1 (hp.mem_iff.1 h)
  have hb := (behK_lk (hd t ht)).2 hx
  have hs : (behP ((pinL l p).map (·.1)) p x).isSome := by
    unfold behP
    rw [List.findSome?_isSome_iff]
    exact ⟨t, pinL_mine.2 ⟨ht, List.ne_nil_of_mem hx⟩, by rw [hb]; rfl⟩
  obtain ⟨y', hy'⟩ := Option.isSome_iff_exists.1 hs
  obtain ⟨u, hu, hk⟩ := List.exists_of_findSome?_eq_some hy'
  have hu2 := pinL_mine.1 hu
  have hm := (behK_lk (hd u hu2.1)).1 hk
  rw [hy', fun_ y' (hp.mem_iff.2 (List.mem_flatMap.2 ⟨u, hu2.1, hm⟩))]
theorem run_ring {l : List Tri} {p : Pt} (hd : ∀ t ∈ l, distT8 t) {L : List (Pt × Pt)} (hp : L.Perm (lkP l p)) (hr : RingL L) {i : Nat} (hi : i < L.length) : ∀ f j, j + f + 1 ≤ L.length → runP ((pinL l p).map (·.1)) p (nthL L i).1 f (nthL L ((i + j) % L.length)).1 = false
  | 0, _, _ => rfl
  | f + 1, j, hj => by
    have hlt : (i + j) % L.length < L.length := Nat.mod_lt _ (by omega)
    have hb := beh_ring hd hp hr.2.1 (x := (nthL L ((i + j) % L.length)).1) (y := (nthL L ((i + j) % L.length)).2) (nthL_mem hlt)
    have hn := hr.next hlt
    have e : ((i + j) % L.length + 1) % L.length = (i + (j + 1)) % L.length := by rw [Nat.mod_add_mod]; rfl
    rw [e] at hn
    have hne : (nthL L ((i + (j + 1)) % L.length)).1 ≠ (nthL L i).1 := fun h => by
      have := hr.inj (Nat.mod_lt _ (by omega)) hi h
      rcases Nat.lt_or_ge (i + (j + 1)) L.length with h1 | h1
      · rw [Nat.mod_eq_of_lt h1] at this; omega
      · rw [Nat.mod_eq_sub_mod h1, Nat.mod_eq_of_lt (by omega)] at this; omega
    rw [runP, hb]
    simp only
    rw [hn, if_neg hne]
    exact run_ring hd hp hr hi f (j + 1) (by omega)
theorem pinch_ring {l : List Tri} {p : Pt} (hd : ∀ t ∈ l, distT8 t) {L : List (Pt × Pt)} (hp : L.Perm (lkP l p)) (hr : RingL L) : pinchedP l p = false := by
  unfold pinchedP
  rw [List.any_eq_false]
  intro s hs
  rw [pinL_lk] at hs
  obtain ⟨x, hx, rfl⟩ := List.mem_map.1 hs
  obtain ⟨i, hi, rfl⟩ := mem_nthL (hp.mem_iff.2 hx)
  have hlen : (pinL l p).length = L.length := by
    have := congrArg List.length (pinL_lk l p)
    rw [List.length_map, List.length_map] at this
    rw [this, hp.length_eq]
  have h0 := run_ring hd hp hr hi (L.length - 1) 0 (by omega)
  rw [Nat.add_zero, Nat.mod_eq_of_lt hi] at h0
  rw [hlen, h0]
  simp
theorem bord_none {all : List Ed} : ∀ es : List Ed, (∀ e ∈ es, swapE e ∈ all) → es.foldl (bordS all) [] = []
  | [], _ => rfl
  | e :: es, h => by
    have h0 : 0 < cntE all (swapE e) := by
      unfold cntE
      rw [List.countP_pos_iff]
      exact ⟨_, h e (by simp), by simp⟩
    have e1 : bordS all [] e = [] := by
      unfold bordS
      rw [if_pos (.inl h0)]
    rw [List.foldl_cons, e1]
    exact bord_none es fun x hx => h x (by simp [hx])
theorem cntE_one {l : List Ed} (h : l.Nodup) (e : Ed) : cntE l e ≤ 1 := by
  have := List.nodup_iff_count.1 h e
  unfold List.count at this
  unfold cntE
  refine Nat.le_trans (Nat.le_of_eq ?_) this
  congr 1
  funext x
  rw [Bool.eq_iff_iff]
  simp
/-- Nothing is found. -/
theorem check_none {T : List Tri} (h1 : ∀ t ∈ T, distT8 t) (h2 : (edgesP T).Nodup) (h3 : ∀ e ∈ edgesP T, swapE e ∈ edgesP T) (h4 : ∀ p, (∃ t ∈ T, CorOf t p) → ∃ L : List (Pt × Pt), L.Perm (lkP T p) ∧ RingL L) : checkP T false = 0 := by
  unfold checkP
  rw [if_neg, if_neg, if_neg, if_neg]
  · rw [Bool.not_eq_true, List.any_eq_false]
    intro p hp
    obtain ⟨L, hL, hr⟩ := h4 p (cornersP_mem.1 hp)
    rw [pinch_ring h1 hL hr]
    simp
  · have hb : borderP T = [] := bord_none _ h3
    rw [hb]
    simp
  · rw [Bool.not_eq_true, List.any_eq_false]
    intro e _
    unfold twiceE
    have := cntE_one h2 e
    simp only [decide_eq_true_eq]
    omega
  · rw [Bool.not_eq_true, List.any_eq_false]
    intro t ht
    obtain ⟨a, b, c⟩ := h1 t ht
    unfold flatT
    simp only [Bool.or_eq_true, decide_eq_true_eq]
    rintro ((h | h) | h)
    · exact a h
    · exact b h
    · exact c h
end Go.Proofs.Ytfljcgehhnmamaa
