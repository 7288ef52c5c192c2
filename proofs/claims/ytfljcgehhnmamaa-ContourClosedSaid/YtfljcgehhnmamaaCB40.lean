/- Joined texts: LnkP LnkR LnkS VolP. -/
import Derived.Test.YtfljcgehhnmamaaCB4
import Derived.Test.YtfljcgehhnmamaaCB37
import Derived.Test.YtfljcgehhnmamaaCB38
import Derived.Test.YtfljcgehhnmamaaCB39
/- Layer 8, plain: the edges of a surface: each once, and both ways. No program. -/
namespace Go.Proofs.Ytfljcgehhnmamaa
open Go.RowKit
theorem nodup_of {α : Type} [BEq α] [LawfulBEq α] : ∀ l : List α, nodupB l = true → l.Nodup
  | [], _ => List.nodup_nil
  | x :: l, h => by
    unfold nodupB at h
    rw [Bool.and_eq_true, Bool.not_eq_true'] at h
    refine List.nodup_cons.2 ⟨fun hm => ?_, nodup_of l h.2⟩
    rw [List.contains_iff_mem.2 hm] at h
    cases h.1
theorem ed_chk {h : Int} (hh : SideH h) {l : List Bool} (hl : l.length = 8) : edChk h l = true := by
  have hm := mem_allL 8 l hl
  rcases hh with rfl | rfl | rfl
  · exact List.all_eq_true.1 ed_all3 l hm
  · exact List.all_eq_true.1 ed_all2 l hm
  · exact List.all_eq_true.1 ed_all1 l hm
theorem lk_chk {h : Int} (hh : SideH h) {l : List Bool} (hl : l.length = 8) : lkChk h l = true := by
  have hm := mem_allL 8 l hl
  rcases hh with rfl | rfl | rfl
  · exact List.all_eq_true.1 lk_all3 l hm
  · exact List.all_eq_true.1 lk_all2 l hm
  · exact List.all_eq_true.1 lk_all1 l hm
theorem cellEd_nodup {h : Int} (hh : SideH h) {l : List Bool} (hl : l.length = 8) : (cellEd l h).Nodup := by
  have := ed_chk hh hl
  unfold edChk at this
  rw [Bool.and_eq_true] at this
  exact nodup_of _ this.1
theorem inF_iff {h : Int} {e : Ed} {a : Nat} : inF h e a = true ↔ 0 < compP (mid2 e) a ∧ compP (mid2 e) a < 2 * h := by
  unfold inF
  simp only [Bool.and_eq_true, decide_eq_true_eq]
theorem onF_iff {h : Int} {e : Ed} {a : Nat} {pos : Bool} : onF h e a pos = true ↔ compP (mid2 e) a = if pos then 2 * h else 0 := by
  unfold onF
  rw [decide_eq_true_eq]
/-- Strictly inside, and turned round in the cell too; or in one face. -/
theorem ed_case {h : Int} (hh : SideH h) {l : List Bool} (hl : l.length = 8) {e : Ed} (he : e ∈ cellEd l h) :
    ((∀ b, b < 3 → inF h e b = true) ∧ swapE e ∈ cellEd l h) ∨ ∃ a pos, a < 3 ∧ onF h e a pos = true ∧ (∀ b, b < 3 → b ≠ a → inF h e b = true) ∧ e ∈ faceG l h a pos := by
  have h0 := ed_chk hh hl
  unfold edChk at h0
  simp only [Bool.and_eq_true] at h0
  have h1 := List.all_eq_true.1 h0.2.1 e he
  unfold edOk at h1
  have fc : ∀ a, ((onF h e a false && (faceG l h a false).contains e) || (onF h e a true && (faceG l h a true).contains e)) = true → ∃ pos, onF h e a pos = true ∧ e ∈ faceG l h a pos := fun a h => by
    rw [Bool.or_eq_true, Bool.and_eq_true, Bool.and_eq_true] at h
    rcases h with ⟨h, k⟩ | ⟨h, k⟩
    · exact ⟨_, h, List.contains_iff_mem.1 k⟩
    · exact ⟨_, h, List.contains_iff_mem.1 k⟩
  split at h1
  · rename_i i0
    split at h1
    · rename_i i1
      split at h1
      · rename_i i2
        refine .inl ⟨fun b hb => ?_, List.contains_iff_mem.1 h1⟩
        have hc : b = 0 ∨ b = 1 ∨ b = 2 := by omega
        rcases hc with rfl | rfl | rfl
        · exact i0
        · exact i1
        · exact i2
      · obtain ⟨pos, h2, h3⟩ := fc 2 h1
        refine .inr ⟨2, pos, by omega, h2, fun b hb hne => ?_, h3⟩
        have hc : b = 0 ∨ b = 1 := by omega
        rcases hc with rfl | rfl
        · exact i0
        · exact i1
    · rw [Bool.and_eq_true] at h1
      obtain ⟨pos, h2, h3⟩ := fc 1 h1.2
      refine .inr ⟨1, pos, by omega, h2, fun b hb hne => ?_, h3⟩
      have hc : b = 0 ∨ b = 2 := by omega
      rcases hc with rfl | rfl
      · exact i0
      · exact h1.1
  · rw [Bool.and_eq_true, Bool.and_eq_true] at h1
    obtain ⟨pos, h2, h3⟩ := fc 0 h1.2
    refine .inr ⟨0, pos, by omega, h2, fun b hb hne => ?_, h3⟩
    have hc : b = 1 ∨ b = 2 := by omega
    rcases hc with rfl | rfl
    · exact h1.1.1
    · exact h1.1.2
theorem faceG_mem {h : Int} (hh : SideH h) {l : List Bool} (hl : l.length = 8) {a : Nat} (ha : a < 3) {pos : Bool} {e : Ed} (he : e ∈ faceG l h a pos) : e ∈ cellEd l h ∧ onF h e a pos = true := by
  have h0 := ed_chk hh hl
  unfold edChk at h0
  simp only [Bool.and_eq_true] at h0
  have h1 := h0.2.2
  unfold facesOk at h1
  have h2 := List.all_eq_true.1 h1 a (List.mem_range.2 ha)
  rw [Bool.and_eq_true] at h2
  cases pos
  · have := List.all_eq_true.1 h2.1 e he
    rw [Bool.and_eq_true] at this
    exact ⟨List.contains_iff_mem.1 this.1, this.2⟩
  · have := List.all_eq_true.1 h2.2 e he
    rw [Bool.and_eq_true] at this
    exact ⟨List.contains_iff_mem.1 this.1, this.2⟩
/-! Cells. -/
def svP (n : Nat) (h : Int) (k : Nat) : Pt := ((cellAt n k).1 * h, (cellAt n k).2.1 * h, (cellAt n k).2.2 * h)
theorem compP_add (p q : Pt) (a : Nat) : compP (addP p q) a = compP p a + compP q a := by
  unfold compP addP
  split
  · rfl
  · split <;> rfl
theorem compP_sv (n : Nat) (h : Int) (k a : Nat) : compP (svP n h k) a = (compK n k a : Nat) * h := by
  unfold compP svP compK cellAt
  split
  · rfl
  · split <;> rfl
theorem mid2_sh (v : Pt) (e : Ed) (a : Nat) : compP (mid2 (shE v e)) a = 2 * compP v a + compP (mid2 e) a := by
  unfold mid2 shE
  rw [compP_add, compP_add, compP_add, compP_add]
  omega
theorem cell_ext {n k k' : Nat} (hk : k < n * n * n) (hk' : k' < n * n * n) (h : ∀ a, a < 3 → compK n k a = compK n k' a) : k = k' := by
  have a0 := h 0 (by omega)
  have a1 := h 1 (by omega)
  have a2 := h 2 (by omega)
  obtain ⟨_, _, _, e⟩ := three_of hk
  obtain ⟨_, _, _, e'⟩ := three_of hk'
  change k % n = k' % n at a0
  change k / n % n = k' / n % n at a1
  change k / n / n = k' / n / n at a2
  rw [e, e', a0, a1, a2]
theorem compK_lt {n k : Nat} (hk : k < n * n * n) (a : Nat) : compK n k a < n := by
  obtain ⟨h0, h1, h2, _⟩ := three_of hk
  unfold compK
  split
  · exact h0
  · split
    · exact h1
    · exact h2
/-- The cell with given coordinates. -/
theorem cell_of {n x y z : Nat} (hx : x < n) (hy : y < n) (hz : z < n) : ∃ k, k < n * n * n ∧ compK n k 0 = x ∧ compK n k 1 = y ∧ compK n k 2 = z := by
  obtain ⟨e1, e2, e3⟩ := cell_no (z := z) hx hy
  exact ⟨(z * n + y) * n + x, three_lt hx hy hz, e1, e2, e3⟩
theorem cell_below {n k a : Nat} (hk : k < n * n * n) (ha : a < 3) (h0 : 0 < compK n k a) : ∃ k', k' < n * n * n ∧ compK n k a = compK n k' a + 1 ∧ ∀ b, b < 3 → b ≠ a → compK n k b = compK n k' b := by
  have c0 := compK_lt hk 0
  have c1 := compK_lt hk 1
  have c2 := compK_lt hk 2
  have hc : a = 0 ∨ a = 1 ∨ a = 2 := by omega
  rcases hc with rfl | rfl | rfl
  · obtain ⟨k', h1, h2, h3, h4⟩ := cell_of (x := compK n k 0 - 1) (y := compK n k 1) (z := compK n k 2) (by omega) c1 c2
    refine ⟨k', h1, by omega, fun b hb hne => ?_⟩
    have hc : b = 1 ∨ b = 2 := by omega
    rcases hc with rfl | rfl
    · exact h3.symm
    · exact h4.symm
  · obtain ⟨k', h1, h2, h3, h4⟩ := cell_of (x := compK n k 0) (y := compK n k 1 - 1) (z := compK n k 2) c0 (by omega) c2
    refine ⟨k', h1, by omega, fun b hb hne => ?_⟩
    have hc : b = 0 ∨ b = 2 := by omega
    rcases hc with rfl | rfl
    · exact h2.symm
    · exact h4.symm
  · obtain ⟨k', h1, h2, h3, h4⟩ := cell_of (x := compK n k 0) (y := compK n k 1) (z := compK n k 2 - 1) c0 c1 (by omega)
    refine ⟨k', h1, by omega, fun b hb hne => ?_⟩
    have hc : b = 0 ∨ b = 1 := by omega
    rcases hc with rfl | rfl
    · exact h2.symm
    · exact h3.symm
theorem cell_above {n k a : Nat} (hk : k < n * n * n) (ha : a < 3) (h0 : compK n k a + 1 < n) : ∃ k', k' < n * n * n ∧ compK n k' a = compK n k a + 1 ∧ ∀ b, b < 3 → b ≠ a → compK n k' b = compK n k b := by
  have c0 := compK_lt hk 0
  have c1 := compK_lt hk 1
  have c2 := compK_lt hk 2
  have hc : a = 0 ∨ a = 1 ∨ a = 2 := by omega
  rcases hc with rfl | rfl | rfl
  · obtain ⟨k', h1, h2, h3, h4⟩ := cell_of (x := compK n k 0 + 1) (y := compK n k 1) (z := compK n k 2) (by omega) c1 c2
    refine ⟨k', h1, by omega, fun b hb hne => ?_⟩
    have hc : b = 1 ∨ b = 2 := by omega
    rcases hc with rfl | rfl
    · exact h3
    · exact h4
  · obtain ⟨k', h1, h2, h3, h4⟩ := cell_of (x := compK n k 0) (y := compK n k 1 + 1) (z := compK n k 2) c0 (by omega) c2
    refine ⟨k', h1, by omega, fun b hb hne => ?_⟩
    have hc : b = 0 ∨ b = 2 := by omega
    rcases hc with rfl | rfl
    · exact h2
    · exact h4
  · obtain ⟨k', h1, h2, h3, h4⟩ := cell_of (x := compK n k 0) (y := compK n k 1) (z := compK n k 2 + 1) c0 c1 (by omega)
    refine ⟨k', h1, by omega, fun b hb hne => ?_⟩
    have hc : b = 0 ∨ b = 1 := by omega
    rcases hc with rfl | rfl
    · exact h2
    · exact h3
theorem bits_V (F : List Bool) (n k v : Nat) (hv : v < 8) : insL (bitsF F n k) v = VF F n (compK n k 0 + v % 2) (compK n k 1 + v / 2 % 2) (compK n k 2 + v / 4 % 2) := by
  rw [insL_bits F n k v hv, insF_V]
  rfl
theorem ringV_8 {a : Nat} (ha : a < 3) (pos : Bool) {j : Nat} (hj : j < 4) : ringV a pos j < 8 := by
  have h3 : a = 0 ∨ a = 1 ∨ a = 2 := by omega
  have h4 : j = 0 ∨ j = 1 ∨ j = 2 ∨ j = 3 := by omega
  rcases h3 with rfl | rfl | rfl <;> rcases h4 with rfl | rfl | rfl | rfl <;> cases pos <;> decide
/-- Neighbours see one face. -/
theorem face_bits {F : List Bool} {n k k' a : Nat} (ha : a < 3) (h1 : compK n k a = compK n k' a + 1) (h2 : ∀ b, b < 3 → b ≠ a → compK n k b = compK n k' b) : ∀ j, j < 4 → insL (bitsF F n k') (ringV a true j) = insL (bitsF F n k) (ringV a false j) := by
  intro j hj
  rw [bits_V F n k' _ (ringV_8 ha true hj), bits_V F n k _ (ringV_8 ha false hj)]
  have h3 : a = 0 ∨ a = 1 ∨ a = 2 := by omega
  have h4 : j = 0 ∨ j = 1 ∨ j = 2 ∨ j = 3 := by omega
  rcases h3 with rfl | rfl | rfl
  · have b1 := h2 1 (by omega) (by omega)
    have b2 := h2 2 (by omega) (by omega)
    rw [h1, b1, b2]
    rcases h4 with rfl | rfl | rfl | rfl <;> simp [ringV]
  · have b1 := h2 0 (by omega) (by omega)
    have b2 := h2 2 (by omega) (by omega)
    rw [h1, b1, b2]
    rcases h4 with rfl | rfl | rfl | rfl <;> simp [ringV]
  · have b1 := h2 0 (by omega) (by omega)
    have b2 := h2 1 (by omega) (by omega)
    rw [h1, b1, b2]
    rcases h4 with rfl | rfl | rfl | rfl <;> simp [ringV]
theorem sv_step {n k k' a : Nat} (h : Int) (ha : a < 3) (h1 : compK n k a = compK n k' a + 1) (h2 : ∀ b, b < 3 → b ≠ a → compK n k b = compK n k' b) : svP n h k = addP (svP n h k') (axP a h) := by
  have key : ∀ c : Nat, compP (svP n h k) c = compP (addP (svP n h k') (axP a h)) c → True := fun _ _ => trivial
  have c0 : (svP n h k).1 = (compK n k 0 : Nat) * h := rfl
  have c1 : (svP n h k).2.1 = (compK n k 1 : Nat) * h := rfl
  have c2 : (svP n h k).2.2 = (compK n k 2 : Nat) * h := rfl
  have d0 : (svP n h k').1 = (compK n k' 0 : Nat) * h := rfl
  have d1 : (svP n h k').2.1 = (compK n k' 1 : Nat) * h := rfl
  have d2 : (svP n h k').2.2 = (compK n k' 2 : Nat) * h := rfl
  have h3 : a = 0 ∨ a = 1 ∨ a = 2 := by omega
  clear key
  rcases h3 with rfl | rfl | rfl
  · have b1 := h2 1 (by omega) (by omega)
    have b2 := h2 2 (by omega) (by omega)
    refine Prod.ext ?_ (Prod.ext ?_ ?_)
    · rw [c0, h1]; show _ = (svP n h k').1 + h; rw [d0]; push_cast; rw [Int.add_mul, Int.one_mul]
    · rw [c1, b1]; show _ = (svP n h k').2.1 + 0; rw [d1, Int.add_zero]
    · rw [c2, b2]; show _ = (svP n h k').2.2 + 0; rw [d2, Int.add_zero]
  · have b1 := h2 0 (by omega) (by omega)
    have b2 := h2 2 (by omega) (by omega)
    refine Prod.ext ?_ (Prod.ext ?_ ?_)
    · rw [c0, b1]; show _ = (svP n h k').1 + 0; rw [d0, Int.add_zero]
    · rw [c1, h1]; show _ = (svP n h k').2.1 + h; rw [d1]; push_cast; rw [Int.add_mul, Int.one_mul]
    · rw [c2, b2]; show _ = (svP n h k').2.2 + 0; rw [d2, Int.add_zero]
  · have b1 := h2 0 (by omega) (by omega)
    have b2 := h2 1 (by omega) (by omega)
    refine Prod.ext ?_ (Prod.ext ?_ ?_)
    · rw [c0, b1]; show _ = (svP n h k').1 + 0; rw [d0, Int.add_zero]
    · rw [c1, b2]; show _ = (svP n h k').2.1 + 0; rw [d1, Int.add_zero]
    · rw [c2, h1]; show _ = (svP n h k').2.2 + h; rw [d2]; push_cast; rw [Int.add_mul, Int.one_mul]
theorem shE_add (v w : Pt) (e : Ed) : shE (addP v w) e = shE v (shE w e) := by
  unfold shE
  rw [addP_assoc, addP_assoc]
theorem swap_sh (v : Pt) (e : Ed) : swapE (shE v e) = shE v (swapE e) := rfl
theorem ed_sh (v : Pt) (ts : List Tri) : (ts.map (shT v)).flatMap edges3 = (edgesP ts).map (shE v) := by
  unfold edgesP
  rw [List.flatMap_map, List.map_flatMap]
  exact congrArg (fun g => ts.flatMap g) (funext fun t => rfl)
/-- The edges of the surface, by cells. -/
theorem ed_ctr (F : List Bool) (n : Nat) (h : Int) (m : Nat) : edgesP (ctrL F n h m) = (List.range m).flatMap fun k => (cellEd (bitsF F n k) h).map (shE (svP n h k)) := by
  unfold ctrL edgesP
  rw [List.flatMap_assoc]
  refine congrArg (fun g => (List.range m).flatMap g) (funext fun k => ?_)
  rw [cellTs_shift (bitsF_length F n k)]
  exact ed_sh _ _
theorem mem_ed_ctr {F : List Bool} {n : Nat} {h : Int} {m : Nat} {e : Ed} : e ∈ edgesP (ctrL F n h m) ↔ ∃ k f, k < m ∧ f ∈ cellEd (bitsF F n k) h ∧ e = shE (svP n h k) f := by
  rw [ed_ctr]
  simp only [List.mem_flatMap, List.mem_range, List.mem_map]
  constructor
  · rintro ⟨k, hk, f, hf, rfl⟩; exact ⟨k, f, hk, hf, rfl⟩
  · rintro ⟨k, f, hk, hf, rfl⟩; exact ⟨k, hk, f, hf, rfl⟩
theorem ax_lem {h : Int} (hh : SideH h) {c c' : Nat} {m m' : Int} (e : 2 * ((c : Int) * h) + m = 2 * ((c' : Int) * h) + m') :
    (0 < m ∧ m < 2 * h → 0 ≤ m' ∧ m' ≤ 2 * h → c = c') ∧ (m = 0 → 0 ≤ m' ∧ m' ≤ 2 * h → c = c' ∨ (c = c' + 1 ∧ m' = 2 * h)) ∧ (m = 2 * h → 0 ≤ m' ∧ m' ≤ 2 * h → c = c' ∨ (c' = c + 1 ∧ m' = 0)) := by
  rcases hh with rfl | rfl | rfl <;> refine ⟨?_, ?_, ?_⟩ <;> intros <;> omega
theorem mid_bd {h : Int} (hh : SideH h) {l : List Bool} (hl : l.length = 8) {e : Ed} (he : e ∈ cellEd l h) : ∀ a, a < 3 → 0 ≤ compP (mid2 e) a ∧ compP (mid2 e) a ≤ 2 * h := by
  have h0 : 0 < h := by rcases hh with rfl | rfl | rfl <;> decide
  intro a ha
  rcases ed_case hh hl he with ⟨hi, _⟩ | ⟨b, pos, hb, ho, hi, _⟩
  · have := inF_iff.1 (hi a ha); omega
  · by_cases hab : a = b
    · subst hab
      have := onF_iff.1 ho
      cases pos
      · simp only [Bool.false_eq_true, if_false] at this; omega
      · simp only [if_true] at this; omega
    · have := inF_iff.1 (hi a ha hab); omega
/-- An edge of two cells is one of their common face. -/
theorem ed_two {h : Int} (hh : SideH h) {F : List Bool} {n k k' : Nat} (hk : k < n * n * n) (hk' : k' < n * n * n) {e e' : Ed} (he : e ∈ cellEd (bitsF F n k) h) (he' : e' ∈ cellEd (bitsF F n k') h) (eq : shE (svP n h k) e = shE (svP n h k') e') (hne : k ≠ k') :
    ∃ a, a < 3 ∧ (∀ b, b < 3 → b ≠ a → compK n k b = compK n k' b) ∧ ((compK n k a = compK n k' a + 1 ∧ e ∈ faceG (bitsF F n k) h a false ∧ e' ∈ faceG (bitsF F n k') h a true) ∨ (compK n k' a = compK n k a + 1 ∧ e ∈ faceG (bitsF F n k) h a true ∧ e' ∈ faceG (bitsF F n k') h a false)) := by
  have h0 : 0 < h := by rcases hh with rfl | rfl | rfl <;> decide
  have hm : ∀ a, a < 3 → 2 * ((compK n k a : Nat) * h) + compP (mid2 e) a = 2 * ((compK n k' a : Nat) * h) + compP (mid2 e') a := fun a _ => by
    rw [← compP_sv, ← compP_sv, ← mid2_sh, ← mid2_sh, eq]
  have hbd := mid_bd hh (bitsF_length F n k') he'
  rcases ed_case hh (bitsF_length F n k) he with ⟨hi, _⟩ | ⟨a, pos, ha, ho, hi, hg⟩
  · exact absurd (cell_ext hk hk' fun a ha => (ax_lem hh (hm a ha)).1 (inF_iff.1 (hi a ha)) (hbd a ha)) hne
  · have hoth : ∀ b, b < 3 → b ≠ a → compK n k b = compK n k' b := fun b hb hba => (ax_lem hh (hm b hb)).1 (inF_iff.1 (hi b hb hba)) (hbd b hb)
    have hna : compK n k a ≠ compK n k' a := fun e => hne (cell_ext hk hk' fun b hb => by
      by_cases hba : b = a
      · subst hba; exact e
      · exact hoth b hb hba)
    have hface : ∀ m', compP (mid2 e') a = m' → (m' = 0 ∨ m' = 2 * h) → ∃ pos', e' ∈ faceG (bitsF F n k') h a pos' ∧ m' = if pos' then 2 * h else 0 := fun m' hm' hc => by
      rcases ed_case hh (bitsF_length F n k') he' with ⟨hi', _⟩ | ⟨b, pos', hb, ho', hi', hg'⟩
      · have := inF_iff.1 (hi' a ha); omega
      · by_cases hab : a = b
        · subst hab
          exact ⟨pos', hg', by rw [← hm']; exact onF_iff.1 ho'⟩
        · have := inF_iff.1 (hi' a ha hab); omega
    have ho := onF_iff.1 ho
    cases pos
    · simp only [Bool.false_eq_true, if_false] at ho
      rcases (ax_lem hh (hm a ha)).2.1 ho (hbd a ha) with h1 | ⟨h1, h2⟩
      · exact absurd h1 hna
      · obtain ⟨pos', hg', hp⟩ := hface _ h2 (.inr rfl)
        cases pos'
        · simp only [Bool.false_eq_true, if_false] at hp; omega
        · exact ⟨a, ha, hoth, .inl ⟨h1, hg, hg'⟩⟩
    · simp only [if_true] at ho
      rcases (ax_lem hh (hm a ha)).2.2 ho (hbd a ha) with h1 | ⟨h1, h2⟩
      · exact absurd h1 hna
      · obtain ⟨pos', hg', hp⟩ := hface _ h2 (.inl rfl)
        cases pos'
        · exact ⟨a, ha, hoth, .inr ⟨h1, hg, hg'⟩⟩
        · simp only [if_true] at hp; omega
/-- No edge lies in two cells. -/
theorem ed_apart {h : Int} (hh : SideH h) {F : List Bool} {n k k' : Nat} (hk : k < n * n * n) (hk' : k' < n * n * n) {e e' : Ed} (he : e ∈ cellEd (bitsF F n k) h) (he' : e' ∈ cellEd (bitsF F n k') h) (eq : shE (svP n h k) e = shE (svP n h k') e') : k = k' := by
  by_cases hne : k = k'
  · exact hne
  · exfalso
    have key : ∀ (k k' : Nat) (e e' : Ed) (a : Nat), a < 3 → (∀ b, b < 3 → b ≠ a → compK n k b = compK n k' b) → compK n k a = compK n k' a + 1 → e ∈ faceG (bitsF F n k) h a false → e' ∈ faceG (bitsF F n k') h a true → shE (svP n h k) e = shE (svP n h k') e' → False := fun k k' e e' a ha hoth h1 hg hg' eq => by
      rw [faceG_shift hh ha (face_bits ha h1 hoth)] at hg'
      obtain ⟨f, hf, rfl⟩ := List.mem_map.1 hg'
      rw [sv_step h ha h1 hoth, shE_add] at eq
      have e2 := shE_inj _ (shE_inj _ eq)
      rw [e2] at hg
      exact faceG_anti hh ha hf hg
    obtain ⟨a, ha, hoth, ⟨h1, hg, hg'⟩ | ⟨h1, hg, hg'⟩⟩ := ed_two hh hk hk' he he' eq hne
    · exact key k k' e e' a ha hoth h1 hg hg' eq
    · exact key k' k e' e a ha (fun b hb hba => (hoth b hb hba).symm) h1 hg' hg eq.symm
theorem nodup_flat {β : Type} {f : Nat → List β} : ∀ ks : List Nat, ks.Nodup → (∀ k ∈ ks, (f k).Nodup) → (∀ k ∈ ks, ∀ k' ∈ ks, ∀ x, x ∈ f k → x ∈ f k' → k = k') → (ks.flatMap f).Nodup
  | [], _, _, _ => List.nodup_nil
  | k :: ks, hn, hf, hd => by
    rw [List.flatMap_cons, List.nodup_append]
    have hn' := List.nodup_cons.1 hn
    refine ⟨hf k (by simp), nodup_flat ks hn'.2 (fun j hj => hf j (by simp [hj])) (fun j hj j' hj' => hd j (by simp [hj]) j' (by simp [hj'])), ?_⟩
    intro x hx y hy e
    subst e
    obtain ⟨j, hj, hxj⟩ := List.mem_flatMap.1 hy
    have := hd k (by simp) j (by simp [hj]) x hx hxj
    subst this
    exact hn'.1 hj
/-- (A) Each edge once. -/
theorem ed_nodup {h : Int} (hh : SideH h) (F : List Bool) (n : Nat) : (edgesP (ctrL F n h (n * n * n))).Nodup := by
  rw [ed_ctr]
  refine nodup_flat _ List.nodup_range (fun k _ => ?_) (fun k hk k' hk' x hx hx' => ?_)
  · unfold List.Nodup
    rw [List.pairwise_map]
    exact (cellEd_nodup hh (bitsF_length F n k)).imp fun hne e => hne (shE_inj _ e)
  · obtain ⟨e, he, rfl⟩ := List.mem_map.1 hx
    obtain ⟨e', he', eq⟩ := List.mem_map.1 hx'
    exact ed_apart hh (List.mem_range.1 hk) (List.mem_range.1 hk') he he' eq.symm
/-- The grid's border is outside. -/
def OutB (F : List Bool) (n : Nat) : Prop := ∀ x y z, x ≤ n → y ≤ n → z ≤ n → (x = 0 ∨ y = 0 ∨ z = 0 ∨ x = n ∨ y = n ∨ z = n) → VF F n x y z = false
theorem out_of {F : List Bool} {n : Nat} (hF : F.length = (n + 1) * (n + 1) * (n + 1)) (h : okF F n F.length = true) : OutB F n := by
  intro x y z hx hy hz hb
  obtain ⟨e1, e2, e3⟩ := cell_no (n := n + 1) (z := z) (show x < n + 1 by omega) (show y < n + 1 by omega)
  have hlt := three_lt (show x < n + 1 by omega) (show y < n + 1 by omega) (show z < n + 1 by omega)
  unfold VF
  cases hv : F.getD ((z * (n + 1) + y) * (n + 1) + x) false with
  | false => rfl
  | true =>
    have hg := okF_get h (by rw [hF]; exact hlt) hv
    have g0 := hg 0 (by omega)
    have g1 := hg 1 (by omega)
    have g2 := hg 2 (by omega)
    change badC n (((z * (n + 1) + y) * (n + 1) + x) % (n + 1)) = false at g0
    change badC n (((z * (n + 1) + y) * (n + 1) + x) / (n + 1) % (n + 1)) = false at g1
    change badC n (((z * (n + 1) + y) * (n + 1) + x) / (n + 1) / (n + 1)) = false at g2
    rw [e1] at g0
    rw [e2] at g1
    rw [e3] at g2
    unfold badC at g0 g1 g2
    simp only [Bool.or_eq_false_iff, beq_eq_false_iff_ne, ne_eq] at g0 g1 g2
    omega
theorem face_low {F : List Bool} {n k a : Nat} (ho : OutB F n) (hk : k < n * n * n) (ha : a < 3) (h0 : compK n k a = 0) : ∀ j, j < 4 → insL (bitsF F n k) (ringV a false j) = false := by
  intro j hj
  have c0 := compK_lt hk 0
  have c1 := compK_lt hk 1
  have c2 := compK_lt hk 2
  rw [bits_V F n k _ (ringV_8 ha false hj)]
  have h3 : a = 0 ∨ a = 1 ∨ a = 2 := by omega
  have h4 : j = 0 ∨ j = 1 ∨ j = 2 ∨ j = 3 := by omega
  refine ho _ _ _ (by omega) (by omega) (by omega) ?_
  rcases h3 with rfl | rfl | rfl <;> rcases h4 with rfl | rfl | rfl | rfl <;> simp only [ringV, Bool.false_eq_true, if_false] <;> simp <;> omega
theorem face_high {F : List Bool} {n k a : Nat} (ho : OutB F n) (hk : k < n * n * n) (ha : a < 3) (h0 : compK n k a + 1 = n) : ∀ j, j < 4 → insL (bitsF F n k) (ringV a true j) = false := by
  intro j hj
  have c0 := compK_lt hk 0
  have c1 := compK_lt hk 1
  have c2 := compK_lt hk 2
  rw [bits_V F n k _ (ringV_8 ha true hj)]
  have h3 : a = 0 ∨ a = 1 ∨ a = 2 := by omega
  have h4 : j = 0 ∨ j = 1 ∨ j = 2 ∨ j = 3 := by omega
  refine ho _ _ _ (by omega) (by omega) (by omega) ?_
  rcases h3 with rfl | rfl | rfl <;> rcases h4 with rfl | rfl | rfl | rfl <;> simp only [ringV, if_true] <;> simp <;> omega
/-- (B) Both ways. -/
theorem ed_both {h : Int} (hh : SideH h) {F : List Bool} {n : Nat} (ho : OutB F n) {e : Ed} (he : e ∈ edgesP (ctrL F n h (n * n * n))) : swapE e ∈ edgesP (ctrL F n h (n * n * n)) := by
  obtain ⟨k, f, hk, hf, rfl⟩ := mem_ed_ctr.1 he
  rcases ed_case hh (bitsF_length F n k) hf with ⟨_, hs⟩ | ⟨a, pos, ha, _, _, hg⟩
  · exact mem_ed_ctr.2 ⟨k, swapE f, hk, hs, rfl⟩
  · cases pos
    · have h0 : 0 < compK n k a := by
        rcases Nat.eq_zero_or_pos (compK n k a) with h0 | h0
        · rw [faceG_none ha (face_low ho hk ha h0)] at hg; cases hg
        · exact h0
      obtain ⟨k', hk', h1, h2⟩ := cell_below hk ha h0
      have hg' : shE (axP a h) (swapE f) ∈ faceG (bitsF F n k') h a true := by
        rw [faceG_shift hh ha (face_bits ha h1 h2)]
        exact List.mem_map.2 ⟨f, hg, rfl⟩
      refine mem_ed_ctr.2 ⟨k', _, hk', (faceG_mem hh (bitsF_length F n k') ha hg').1, ?_⟩
      rw [← shE_add, ← sv_step h ha h1 h2]
      rfl
    · have h0 : compK n k a + 1 < n := by
        have := compK_lt hk a
        rcases Nat.lt_or_ge (compK n k a + 1) n with h0 | h0
        · exact h0
        · rw [faceG_none ha (face_high ho hk ha (by omega))] at hg; cases hg
      obtain ⟨k', hk', h1, h2⟩ := cell_above hk ha h0
      rw [faceG_shift hh ha (face_bits ha h1 h2)] at hg
      obtain ⟨f', hf', rfl⟩ := List.mem_map.1 hg
      refine mem_ed_ctr.2 ⟨k', f', hk', (faceG_mem hh (bitsF_length F n k') ha hf').1, ?_⟩
      rw [sv_step h ha h1 h2, shE_add]
      rfl
end Go.Proofs.Ytfljcgehhnmamaa
/- Layer 8, plain: the link of each corner of a surface is one ring; Check finds nothing. No program. -/
namespace Go.Proofs.Ytfljcgehhnmamaa
open Go.RowKit
theorem addP_iff {v p q : Pt} : addP v p = addP v q ↔ p = q := ⟨addP_cancel v, fun h => by rw [h]⟩
theorem lk1_sh (v : Pt) (t : Tri) (q : Pt) : lk1 (shT v t) (addP v q) = (lk1 t q).map (shE v) := by
  have key : ∀ (r a b : Pt), (if addP v r = addP v q then [(addP v a, addP v b)] else []) = (if r = q then [(a, b)] else []).map (shE v) := fun r a b => by
    by_cases h : r = q
    · rw [if_pos h, if_pos (by rw [h])]; rfl
    · rw [if_neg h, if_neg (fun e => h (addP_cancel v e))]; rfl
  unfold lk1
  rw [List.map_append, List.map_append, ← key, ← key, ← key]
  rfl
theorem lkP_sh (v : Pt) (ts : List Tri) (q : Pt) : lkP (ts.map (shT v)) (addP v q) = (lkP ts q).map (shE v) := by
  unfold lkP
  rw [List.flatMap_map, List.map_flatMap]
  exact congrArg (fun g => ts.flatMap g) (funext fun t => lk1_sh v t q)
theorem lk_edges {ts : List Tri} {p q r : Pt} (h : (q, r) ∈ lkP ts p) : (p, q) ∈ edgesP ts ∧ (r, p) ∈ edgesP ts := by
  obtain ⟨t, ht, hx⟩ := List.mem_flatMap.1 h
  have key : ∀ e, e ∈ edges3 t → e ∈ edgesP ts := fun e he => List.mem_flatMap.2 ⟨t, ht, he⟩
  unfold edges3 at key
  rcases mem_lk1.1 hx with ⟨rfl, rfl, rfl⟩ | ⟨rfl, rfl, rfl⟩ | ⟨rfl, rfl, rfl⟩
  · exact ⟨key _ (by simp), key _ (by simp)⟩
  · exact ⟨key _ (by simp), key _ (by simp)⟩
  · exact ⟨key _ (by simp), key _ (by simp)⟩
theorem edges_lk {ts : List Tri} {p q : Pt} (h : (p, q) ∈ edgesP ts) : ∃ r, (q, r) ∈ lkP ts p := by
  obtain ⟨t, ht, hx⟩ := List.mem_flatMap.1 h
  unfold edges3 at hx
  simp only [List.mem_cons, Prod.mk.injEq, List.not_mem_nil, or_false] at hx
  rcases hx with ⟨rfl, rfl⟩ | ⟨rfl, rfl⟩ | ⟨rfl, rfl⟩
  · exact ⟨t.2.2, List.mem_flatMap.2 ⟨t, ht, mem_lk1.2 (.inl ⟨rfl, rfl, rfl⟩)⟩⟩
  · exact ⟨t.1, List.mem_flatMap.2 ⟨t, ht, mem_lk1.2 (.inr (.inl ⟨rfl, rfl, rfl⟩))⟩⟩
  · exact ⟨t.2.1, List.mem_flatMap.2 ⟨t, ht, mem_lk1.2 (.inr (.inr ⟨rfl, rfl, rfl⟩))⟩⟩
theorem lk_filter (ts : List Tri) (p : Pt) : (lkP ts p).map (fun x => (p, x.1)) = (edgesP ts).filter fun e => decide (e.1 = p) := by
  unfold lkP edgesP
  rw [List.map_flatMap, List.filter_flatMap]
  refine congrArg (fun g => ts.flatMap g) (funext fun t => ?_)
  unfold lk1 edges3
  by_cases h1 : t.1 = p <;> by_cases h2 : t.2.1 = p <;> by_cases h3 : t.2.2 = p <;> simp [h1, h2, h3]
theorem lk_firsts {ts : List Tri} (h : (edgesP ts).Nodup) (p : Pt) : ((lkP ts p).map (·.1)).Nodup := by
  have h1 : ((lkP ts p).map (fun x => (p, x.1))).Nodup := by
    rw [lk_filter]
    exact h.filter _
  unfold List.Nodup at h1 ⊢
  rw [List.pairwise_map] at h1 ⊢
  exact h1.imp fun hne e => hne (by rw [e])
theorem nodup_map_of {α β : Type} {f : α → β} {l : List α} (h : (l.map f).Nodup) : l.Nodup := by
  unfold List.Nodup at h ⊢
  rw [List.pairwise_map] at h
  exact h.imp fun hne e => hne (by rw [e])
theorem corOf_lk {ts : List Tri} {p : Pt} {x : Pt × Pt} (h : x ∈ lkP ts p) : ∃ t ∈ ts, CorOf t p := by
  obtain ⟨t, ht, hx⟩ := List.mem_flatMap.1 h
  rcases (mem_lk1 (q := x.1) (r := x.2)).1 hx with ⟨e, _⟩ | ⟨e, _⟩ | ⟨e, _⟩
  · exact ⟨t, ht, .inl e.symm⟩
  · exact ⟨t, ht, .inr (.inl e.symm)⟩
  · exact ⟨t, ht, .inr (.inr e.symm)⟩
theorem lk_corOf {ts : List Tri} {p : Pt} {t : Tri} (ht : t ∈ ts) (h : CorOf t p) : lkP ts p ≠ [] := by
  have key : ∀ q r, (q, r) ∈ lk1 t p → lkP ts p ≠ [] := fun q r hx => List.ne_nil_of_mem (List.mem_flatMap.2 ⟨t, ht, hx⟩)
  rcases h with rfl | rfl | rfl
  · exact key _ _ (mem_lk1.2 (.inl ⟨rfl, rfl, rfl⟩))
  · exact key _ _ (mem_lk1.2 (.inr (.inl ⟨rfl, rfl, rfl⟩)))
  · exact key _ _ (mem_lk1.2 (.inr (.inr ⟨rfl, rfl, rfl⟩)))
/-- The link in the surface, by cells. -/
theorem mem_lk_ctr {F : List Bool} {n : Nat} {h : Int} {m : Nat} {p : Pt} {x : Pt × Pt} : x ∈ lkP (ctrL F n h m) p ↔ ∃ k q y, k < m ∧ p = addP (svP n h k) q ∧ y ∈ lkP (cellTs (bitsF F n k) (0, 0, 0) h) q ∧ x = shE (svP n h k) y := by
  have e : ∀ k, x ∈ lkP (cellTs (bitsF F n k) (cellAt n k) h) p ↔ ∃ q y, p = addP (svP n h k) q ∧ y ∈ lkP (cellTs (bitsF F n k) (0, 0, 0) h) q ∧ x = shE (svP n h k) y := fun k => by
    obtain ⟨q, hq⟩ : ∃ q, p = addP (svP n h k) q := ⟨addP (-(svP n h k).1, -(svP n h k).2.1, -(svP n h k).2.2) p, by
      rw [← addP_assoc]
      obtain ⟨a, b, c⟩ := p
      simp only [addP]
      refine Prod.ext (by simp; omega) (Prod.ext (by simp; omega) (by simp; omega))⟩
    rw [cellTs_shift (bitsF_length F n k), hq]
    show x ∈ lkP ((cellTs (bitsF F n k) (0, 0, 0) h).map (shT (svP n h k))) _ ↔ _
    rw [lkP_sh]
    constructor
    · intro hx
      obtain ⟨y, hy, rfl⟩ := List.mem_map.1 hx
      exact ⟨q, y, rfl, hy, rfl⟩
    · rintro ⟨q', y, e1, hy, rfl⟩
      rw [addP_cancel _ e1]
      exact List.mem_map.2 ⟨y, hy, rfl⟩
  unfold lkP ctrL
  rw [List.flatMap_assoc]
  simp only [List.mem_flatMap, List.mem_range]
  constructor
  · rintro ⟨k, hk, t, ht, hx⟩
    obtain ⟨q, y, h1, h2, h3⟩ := (e k).1 (List.mem_flatMap.2 ⟨t, ht, hx⟩)
    exact ⟨k, q, y, hk, h1, List.mem_flatMap.1 h2, h3⟩
  · rintro ⟨k, q, y, hk, h1, h2, h3⟩
    exact ⟨k, hk, List.mem_flatMap.1 ((e k).2 ⟨q, y, h1, List.mem_flatMap.2 h2, h3⟩)⟩
/-! Rings of one cell. -/
theorem path_of : ∀ (x : Pt × Pt) (L : List (Pt × Pt)), (((x :: L).zip L).all fun y => decide (y.1.2 = y.2.1)) = true → ∃ B, (x :: L).getLast? = some B ∧ PathL x.1 (x :: L) B.2
  | x, [], _ => ⟨x, rfl, rfl, rfl⟩
  | x, y :: L, h => by
    rw [List.zip_cons_cons, List.all_cons, Bool.and_eq_true, decide_eq_true_eq] at h
    obtain ⟨B, h1, h2⟩ := path_of y L h.2
    refine ⟨B, by rw [List.getLast?_cons_cons]; exact h1, rfl, ?_⟩
    rw [h.1]
    exact h2
theorem ring_of {L : List (Pt × Pt)} (h0 : L ≠ []) (h : ringB L = true) : RingL L := by
  unfold ringB at h
  rw [Bool.and_eq_true, Bool.and_eq_true, decide_eq_true_eq] at h
  refine ⟨h0, nodup_of _ h.1.1, ?_⟩
  cases L with
  | nil => exact absurd rfl h0
  | cons x L =>
    obtain ⟨B, h1, h2⟩ := path_of x L h.1.2
    have h3 := h.2
    rw [h1] at h3
    simp only [Option.map_some, List.head?_cons, Option.some.injEq] at h3
    rw [h3] at h2
    exact ⟨x.1, h2⟩
theorem PathL.sh (v : Pt) : ∀ {A B : Pt} {L : List (Pt × Pt)}, PathL A L B → PathL (addP v A) (L.map (shE v)) (addP v B)
  | _, _, [], h => by cases h; exact rfl
  | _, _, _ :: _, h => ⟨by show addP v _ = _; rw [h.1], PathL.sh v h.2⟩
theorem RingL.sh (v : Pt) {L : List (Pt × Pt)} (h : RingL L) : RingL (L.map (shE v)) := by
  obtain ⟨h0, hn, A, hp⟩ := h
  refine ⟨by simpa using h0, ?_, _, hp.sh v⟩
  rw [List.map_map]
  unfold List.Nodup at hn ⊢
  rw [List.pairwise_map] at hn ⊢
  exact hn.imp fun hne e => hne (addP_cancel v e)
theorem lk_in {h : Int} (hh : SideH h) {l : List Bool} (hl : l.length = 8) {t : Tri} (ht : t ∈ cellTs l (0, 0, 0) h) {q : Pt} (hq : CorOf t q) (hi : InB h q) : RingL (lkP (cellTs l (0, 0, 0) h) q) := by
  refine ring_of (lk_corOf ht hq) ?_
  have h0 := lk_chk hh hl
  unfold lkChk at h0
  dsimp only at h0
  generalize cellTs l (0, 0, 0) h = ts at h0 ht ⊢
  rw [Bool.and_eq_true] at h0
  have h1 := List.all_eq_true.1 h0.2 t ht
  rw [Bool.and_eq_true, Bool.and_eq_true] at h1
  have hb := inB_iff.2 hi
  have key : ∀ r, q = r → (!inB h r || ringB (lkP ts r)) = true → ringB (lkP ts q) = true := fun r e hr => by
    subst e
    rw [hb] at hr
    exact hr
  rcases hq with e | e | e
  · exact key _ e h1.1
  · exact key _ e h1.2.1
  · exact key _ e h1.2.2
/-! Chains around an edge. -/
/-- A chain from direction dA to direction dB. -/
structure Chn (a : Nat) (p : Pt) (c : List (Pt × Pt)) (A B : Pt) (dA dC dB : Int × Int) : Prop where
  path : PathL A c B
  ne : c ≠ []
  fst : dirP a p A = dA
  lst : dirP a p B = dB
  dirs : (c.map fun x => dirP a p x.1) = [dA] ∨ (c.map fun x => dirP a p x.1) = [dA, dC]
theorem lk_edge {h : Int} (hh : SideH h) {l : List Bool} (hl : l.length = 8) {e : Nat × Nat} (he : e ∈ xEdges l) {b d s : Bool} (hb : decide (e.1 / 2 ^ ((e.2 + 1) % 3) % 2 = 1) = b) (hd : decide (e.1 / 2 ^ ((e.2 + 2) % 3) % 2 = 1) = d) (hs : insL l e.1 = s) :
    ∃ c A B, c.Perm (lkP (cellTs l (0, 0, 0) h) (xPt h e)) ∧ Chn e.2 (xPt h e) c A B (dirA b d s) (dirC b d) (dirA b d !s) := by
  have h0 := lk_chk hh hl
  unfold lkChk at h0
  rw [Bool.and_eq_true] at h0
  have h1 := List.all_eq_true.1 h0.1 e he
  unfold lkOk at h1
  rw [hb, hd, hs] at h1
  simp only at h1
  split at h1
  · rename_i x heq
    rw [Bool.and_eq_true, decide_eq_true_eq, decide_eq_true_eq] at h1
    rw [heq]
    exact ⟨[x], x.1, x.2, List.Perm.refl _, ⟨rfl, rfl⟩, by simp, h1.1, h1.2, .inl (by rw [List.map_cons, h1.1]; rfl)⟩
  · rename_i x y heq
    rw [heq]
    simp only [Bool.or_eq_true, Bool.and_eq_true, decide_eq_true_eq] at h1
    rcases h1 with ⟨⟨⟨h1, h2⟩, h3⟩, h4⟩ | ⟨⟨⟨h1, h2⟩, h3⟩, h4⟩
    · exact ⟨[x, y], x.1, y.2, List.Perm.refl _, ⟨rfl, h1.symm, rfl⟩, by simp, h2, h4, .inr (by simp only [List.map_cons, List.map_nil]; rw [h2, ← h1, h3])⟩
    · exact ⟨[y, x], y.1, x.2, List.Perm.swap _ _ _, ⟨rfl, h1.symm, rfl⟩, by simp, h2, h4, .inr (by simp only [List.map_cons, List.map_nil]; rw [h2, ← h1, h3])⟩
  · cases h1
theorem dirP_sh (v : Pt) (a : Nat) (p q : Pt) : dirP a (addP v p) (addP v q) = dirP a p q := by
  have key : ∀ b, compP (addP v q) b - compP (addP v p) b = compP q b - compP p b := fun b => by rw [compP_add, compP_add]; omega
  unfold dirP
  rw [key, key]
theorem Chn.sh {a : Nat} {p : Pt} {c : List (Pt × Pt)} {A B : Pt} {dA dC dB : Int × Int} (h : Chn a p c A B dA dC dB) (v : Pt) : Chn a (addP v p) (c.map (shE v)) (addP v A) (addP v B) dA dC dB := by
  have e : ((c.map (shE v)).map fun x => dirP a (addP v p) x.1) = c.map fun x => dirP a p x.1 := by
    rw [List.map_map]
    exact List.map_congr_left fun x _ => dirP_sh v a p x.1
  exact ⟨h.path.sh v, by simpa using h.ne, (dirP_sh v a p A).trans h.fst, (dirP_sh v a p B).trans h.lst, by rw [e]; exact h.dirs⟩
theorem PathL.ends : ∀ {A B : Pt} {L : List (Pt × Pt)}, PathL A L B → L ≠ [] → A ∈ L.map (·.1) ∧ B ∈ L.map (·.2)
  | _, _, [], _, h0 => absurd rfl h0
  | _, _, [x], h, _ => ⟨by rw [← h.1]; simp, by have := h.2; cases this; simp⟩
  | _, _, x :: y :: L, h, _ => by
    have ih := PathL.ends h.2 (by simp)
    exact ⟨by rw [← h.1]; simp, List.mem_cons_of_mem _ ih.2⟩
theorem inj_of_map {α β : Type} {f : α → β} {l : List α} (h : (l.map f).Nodup) {x y : α} (hx : x ∈ l) (hy : y ∈ l) (e : f x = f y) : x = y := by
  induction l with
  | nil => cases hx
  | cons z l ih =>
    rw [List.map_cons, List.nodup_cons] at h
    rcases List.mem_cons.1 hx with ex | hx'
    · rcases List.mem_cons.1 hy with ey | hy'
      · rw [ex, ey]
      · exact absurd (List.mem_map.2 ⟨y, hy', by rw [← e, ex]⟩) h.1
    · rcases List.mem_cons.1 hy with ey | hy'
      · exact absurd (List.mem_map.2 ⟨x, hx', by rw [e, ey]⟩) h.1
      · exact ih h.2 hx' hy'
/-- Four chains, end to end. -/
theorem ring_four {a : Nat} {p : Pt} {L c0 c1 c2 c3 : List (Pt × Pt)} {A0 B0 A1 B1 A2 B2 A3 B3 : Pt} {d0 e0 d1 e1 d2 e2 d3 e3 : Int × Int}
    (h0 : Chn a p c0 A0 B0 d0 e0 d1) (h1 : Chn a p c1 A1 B1 d1 e1 d2) (h2 : Chn a p c2 A2 B2 d2 e2 d3) (h3 : Chn a p c3 A3 B3 d3 e3 d0)
    (hd : [d0, e0, d1, e1, d2, e2, d3, e3].Nodup) (hL : (L.map (·.1)).Nodup) (hm : ∀ x, x ∈ L ↔ x ∈ c0 ∨ x ∈ c1 ∨ x ∈ c2 ∨ x ∈ c3) (hc : ∀ r ∈ L.map (·.2), r ∈ L.map (·.1)) :
    ∃ M : List (Pt × Pt), M.Perm L ∧ RingL M := by
  have hmem : ∀ x, x ∈ c0 ++ (c1 ++ (c2 ++ c3)) ↔ x ∈ L := fun x => by rw [hm]; simp only [List.mem_append]
  have hdn : ((c0 ++ (c1 ++ (c2 ++ c3))).map fun x => dirP a p x.1).Nodup := by
    have hsub : ∀ {c : List (Pt × Pt)} {A B : Pt} {dA dC dB : Int × Int}, Chn a p c A B dA dC dB → List.Sublist (c.map fun x => dirP a p x.1) [dA, dC] := fun h => by
      rcases h.dirs with e | e <;> rw [e]
      · exact List.Sublist.cons_cons _ (List.nil_sublist _)
      · exact List.Sublist.refl _
    rw [List.map_append, List.map_append, List.map_append]
    exact ((hsub h0).append ((hsub h1).append ((hsub h2).append (hsub h3)))).nodup hd
  have hfn : ((c0 ++ (c1 ++ (c2 ++ c3))).map (·.1)).Nodup := by
    have e : ((c0 ++ (c1 ++ (c2 ++ c3))).map fun x => dirP a p x.1) = ((c0 ++ (c1 ++ (c2 ++ c3))).map (·.1)).map (dirP a p) := by rw [List.map_map]; rfl
    rw [e] at hdn
    exact nodup_map_of hdn
  have hperm : (c0 ++ (c1 ++ (c2 ++ c3))).Perm L := (List.perm_ext_iff_of_nodup (nodup_map_of hfn) (nodup_map_of hL)).2 hmem
  have join : ∀ {c c' : List (Pt × Pt)} {A B A' B' : Pt} {dA dC dB dC' dB' : Int × Int}, Chn a p c A B dA dC dB → Chn a p c' A' B' dB dC' dB' → (∀ x, x ∈ c → x ∈ L) → (∀ x, x ∈ c' → x ∈ L) → B = A' := fun {c c' A B A' B' dA dC dB dC' dB'} h h' hx hx' => by
    obtain ⟨u, hu, eu⟩ := List.mem_map.1 (h.path.ends h.ne).2
    obtain ⟨w, hw, ew⟩ := List.mem_map.1 (h'.path.ends h'.ne).1
    obtain ⟨u', hu', eu'⟩ := List.mem_map.1 (hc B (List.mem_map.2 ⟨u, hx u hu, eu⟩))
    have hi := inj_of_map hdn ((hmem u').2 hu') ((hmem w).2 (hx' w hw)) (by rw [eu', ew, h.lst, h'.fst])
    rw [← eu', ← ew, hi]
  have m0 : ∀ x, x ∈ c0 → x ∈ L := fun x hx => (hm x).2 (.inl hx)
  have m1 : ∀ x, x ∈ c1 → x ∈ L := fun x hx => (hm x).2 (.inr (.inl hx))
  have m2 : ∀ x, x ∈ c2 → x ∈ L := fun x hx => (hm x).2 (.inr (.inr (.inl hx)))
  have m3 : ∀ x, x ∈ c3 → x ∈ L := fun x hx => (hm x).2 (.inr (.inr (.inr hx)))
  obtain rfl := join h0 h1 m0 m1
  obtain rfl := join h1 h2 m1 m2
  obtain rfl := join h2 h3 m2 m3
  obtain rfl := join h3 h0 m3 m0
  refine ⟨_, hperm, ?_, hfn, _, h0.path.app (h1.path.app (h2.path.app h3.path))⟩
  intro e
  exact h0.ne (List.append_eq_nil_iff.1 e).1
end Go.Proofs.Ytfljcgehhnmamaa
/- Layer 8, plain: at each crossing the links of four cells make one ring; Check finds nothing in a surface (printed by mk_LnkS.py). No program. -/
namespace Go.Proofs.Ytfljcgehhnmamaa
open Go.RowKit
theorem lk_closed {h : Int} (hh : SideH h) {F : List Bool} {n : Nat} (ho : OutB F n) {p : Pt} : ∀ r ∈ (lkP (ctrL F n h (n * n * n)) p).map (·.2), r ∈ (lkP (ctrL F n h (n * n * n)) p).map (·.1) := by
  intro r hr
  obtain ⟨x, hx, rfl⟩ := List.mem_map.1 hr
  obtain ⟨y, hy⟩ := edges_lk (ed_both hh ho (lk_edges (q := x.1) (r := x.2) hx).2)
  exact List.mem_map.2 ⟨_, hy, rfl⟩
theorem ring_cross {h : Int} (hh : SideH h) {F : List Bool} {n : Nat} (ho : OutB F n) {a : Nat} {p : Pt} {s : Bool} (K : Bool → Bool → Nat) (E : Bool → Bool → Nat × Nat) (hK : ∀ b d, K b d < n * n * n)
    (hE : ∀ b d, E b d ∈ xEdges (bitsF F n (K b d)) ∧ (E b d).2 = a ∧ decide ((E b d).1 / 2 ^ ((a + 1) % 3) % 2 = 1) = b ∧ decide ((E b d).1 / 2 ^ ((a + 2) % 3) % 2 = 1) = d ∧ insL (bitsF F n (K b d)) (E b d).1 = s ∧ addP (svP n h (K b d)) (xPt h (E b d)) = p)
    (hall : ∀ k q, k < n * n * n → addP (svP n h k) q = p → lkP (cellTs (bitsF F n k) (0, 0, 0) h) q ≠ [] → ∃ b d, k = K b d) :
    ∃ M : List (Pt × Pt), M.Perm (lkP (ctrL F n h (n * n * n)) p) ∧ RingL M := by
  have key : ∀ b d, ∃ c A B, (∀ x, x ∈ c ↔ ∃ y, y ∈ lkP (cellTs (bitsF F n (K b d)) (0, 0, 0) h) (xPt h (E b d)) ∧ x = shE (svP n h (K b d)) y) ∧ Chn a p c A B (dirA b d s) (dirC b d) (dirA b d !s) := fun b d => by
    obtain ⟨h1, h2, h3, h4, h5, h6⟩ := hE b d
    obtain ⟨c, A, B, hp, hc⟩ := lk_edge hh (bitsF_length F n (K b d)) h1 (b := b) (d := d) (s := s) (by rw [h2]; exact h3) (by rw [h2]; exact h4) h5
    have hs := hc.sh (svP n h (K b d))
    rw [h6, h2] at hs
    refine ⟨_, _, _, fun x => ?_, hs⟩
    constructor
    · intro hx
      obtain ⟨y, hy, rfl⟩ := List.mem_map.1 hx
      exact ⟨y, hp.mem_iff.1 hy, rfl⟩
    · rintro ⟨y, hy, rfl⟩
      exact List.mem_map.2 ⟨y, hp.mem_iff.2 hy, rfl⟩
  have hm : ∀ x, x ∈ lkP (ctrL F n h (n * n * n)) p ↔ ∃ b d, ∃ y, y ∈ lkP (cellTs (bitsF F n (K b d)) (0, 0, 0) h) (xPt h (E b d)) ∧ x = shE (svP n h (K b d)) y := fun x => by
    rw [mem_lk_ctr]
    constructor
    · rintro ⟨k, q, y, hk, hp, hy, rfl⟩
      obtain ⟨b, d, rfl⟩ := hall k q hk hp.symm (List.ne_nil_of_mem hy)
      have e := (hE b d).2.2.2.2.2
      rw [hp] at e
      rw [← addP_cancel _ e] at hy
      exact ⟨b, d, y, hy, rfl⟩
    · rintro ⟨b, d, y, hy, rfl⟩
      exact ⟨K b d, xPt h (E b d), y, hK b d, (hE b d).2.2.2.2.2.symm, hy, rfl⟩
  obtain ⟨c0, A0, B0, m0, k0⟩ := key false false
  obtain ⟨c1, A1, B1, m1, k1⟩ := key true false
  obtain ⟨c2, A2, B2, m2, k2⟩ := key true true
  obtain ⟨c3, A3, B3, m3, k3⟩ := key false true
  have hall4 : ∀ x, x ∈ lkP (ctrL F n h (n * n * n)) p ↔ x ∈ c0 ∨ x ∈ c1 ∨ x ∈ c2 ∨ x ∈ c3 := fun x => by
    rw [hm, m0, m1, m2, m3]
    constructor
    · rintro ⟨b, d, hx⟩
      cases b <;> cases d
      · exact .inl hx
      · exact .inr (.inr (.inr hx))
      · exact .inr (.inl hx)
      · exact .inr (.inr (.inl hx))
    · rintro (hx | hx | hx | hx)
      · exact ⟨_, _, hx⟩
      · exact ⟨_, _, hx⟩
      · exact ⟨_, _, hx⟩
      · exact ⟨_, _, hx⟩
  have hf := lk_firsts (ed_nodup hh F n) p
  cases s
  · exact ring_four (d0 := (0, 1)) (d1 := (1, 0)) (d2 := (0, -1)) (d3 := (-1, 0)) k0 k3 k2 k1 (by decide) hf (fun x => by rw [hall4]; constructor <;> (rintro (hx | hx | hx | hx) <;> simp [hx])) (lk_closed hh ho)
  · exact ring_four (d0 := (1, 0)) (d1 := (0, 1)) (d2 := (-1, 0)) (d3 := (0, -1)) k0 k1 k2 k3 (by decide) hf hall4 (lk_closed hh ho)
/-- A cell by its place. -/
theorem cell_num {n x y z : Nat} (h : Int) (hx : x < n) (hy : y < n) (hz : z < n) : (z * n + y) * n + x < n * n * n ∧ compK n ((z * n + y) * n + x) 0 = x ∧ compK n ((z * n + y) * n + x) 1 = y ∧ compK n ((z * n + y) * n + x) 2 = z ∧ svP n h ((z * n + y) * n + x) = ((x : Int) * h, (y : Int) * h, (z : Int) * h) := by
  obtain ⟨e1, e2, e3⟩ := cell_no (z := z) hx hy
  refine ⟨three_lt hx hy hz, e1, e2, e3, ?_⟩
  unfold svP cellAt
  rw [e1, e2, e3]
/-- Which edge of a cell a crossing is. -/
theorem cross_in {h : Int} (hh : SideH h) {F : List Bool} {n k : Nat} {x y z a : Nat} (ha : a < 3) {q : Pt} (hq : addP (svP n h k) q = midG h x y z a) (hl : lkP (cellTs (bitsF F n k) (0, 0, 0) h) q ≠ []) :
    ∃ e ∈ edgeL, e.2 = a ∧ x = compK n k 0 + e.1 % 2 ∧ y = compK n k 1 + e.1 / 2 % 2 ∧ z = compK n k 2 + e.1 / 4 % 2 := by
  obtain ⟨w, hw⟩ := List.exists_mem_of_ne_nil _ hl
  obtain ⟨t, ht, hc⟩ := corOf_lk hw
  rcases cor_first hh (bitsF_length F n k) ht hc with hi | ⟨e, he, rfl⟩
  · have h1 := inB_whole hh (c := cellAt n k) hi
    have h2 := midG_whole hh (x := x) (y := y) (z := z) ha
    have e : addP ((cellAt n k).1 * h, (cellAt n k).2.1 * h, (cellAt n k).2.2 * h) q = midG h x y z a := hq
    rw [e, h2] at h1
    cases h1
  · have hem := (List.mem_filter.1 he).1
    obtain ⟨m1, m2, m3, _⟩ := xPt_mid hh hem
    have e1 : addP (svP n h k) (midG h (e.1 % 2) (e.1 / 2 % 2) (e.1 / 4 % 2) e.2) = midG h (compK n k 0 + e.1 % 2) (compK n k 1 + e.1 / 2 % 2) (compK n k 2 + e.1 / 4 % 2) e.2 := by
      unfold midG addP svP cellAt compK
      push_cast
      simp only [Int.add_mul, Int.add_assoc]
    rw [m1, e1] at hq
    obtain ⟨g1, g2, g3, g4⟩ := midG_eq hh m2 ha hq
    exact ⟨e, hem, g4, g1.symm, g2.symm, g3.symm⟩
theorem ring_ax0 {h : Int} (hh : SideH h) {F : List Bool} {n : Nat} (ho : OutB F n) {u v w : Nat} (hu : u < n) (hv : v + 1 < n) (hw : w + 1 < n) (hX : XG F n u (v + 1) (w + 1) 0) : ∃ M : List (Pt × Pt), M.Perm (lkP (ctrL F n h (n * n * n)) (midG h u (v + 1) (w + 1) 0)) ∧ RingL M := by
  have hc : ∀ b d : Bool, u < n ∧ (if b then v else v + 1) < n ∧ (if d then w else w + 1) < n := fun b d => by cases b <;> cases d <;> simp <;> omega
  refine ring_cross hh ho (s := VF F n u (v + 1) (w + 1)) (a := 0) (fun b d => ((if d then w else w + 1) * n + (if b then v else v + 1)) * n + u) (fun b d => ((if b then 2 else 0) + (if d then 4 else 0), 0)) (fun b d => (cell_num h (hc b d).1 (hc b d).2.1 (hc b d).2.2).1) (fun b d => ?_) (fun k q hk hq hl => ?_)
  · obtain ⟨g0, g1, g2, g3, g4⟩ := cell_num h (hc b d).1 (hc b d).2.1 (hc b d).2.2
    have hem : ((if b then 2 else 0) + (if d then 4 else 0), 0) ∈ edgeL := by cases b <;> cases d <;> decide
    have hv8 : ((if b then 2 else 0) + (if d then 4 else 0)) < 8 := by cases b <;> cases d <;> decide
    have hv8' : ((if b then 2 else 0) + (if d then 4 else 0)) + 2 ^ 0 < 8 := by cases b <;> cases d <;> decide
    have i1 : insL (bitsF F n (((if d then w else w + 1) * n + (if b then v else v + 1)) * n + u)) ((if b then 2 else 0) + (if d then 4 else 0)) = VF F n u (v + 1) (w + 1) := by
      rw [bits_V F n _ _ hv8, g1, g2, g3]
      cases b <;> cases d <;> rfl
    have i2 : insL (bitsF F n (((if d then w else w + 1) * n + (if b then v else v + 1)) * n + u)) ((if b then 2 else 0) + (if d then 4 else 0) + 2 ^ 0) = VF F n (u + (axU 0).1) ((v + 1) + (axU 0).2.1) ((w + 1) + (axU 0).2.2) := by
      rw [bits_V F n _ _ hv8', g1, g2, g3]
      cases b <;> cases d <;> rfl
    refine ⟨List.mem_filter.2 ⟨hem, ?_⟩, rfl, by cases b <;> cases d <;> rfl, by cases b <;> cases d <;> rfl, i1, ?_⟩
    · show (insL _ _ != insL _ _) = true
      rw [i1, i2, bne_iff_ne]
      exact hX
    · rw [g4, (xPt_mid hh hem).1]
      unfold midG addP axU
      cases b <;> cases d <;> simp [Int.add_mul, Int.add_comm]
  · obtain ⟨e, he, h0, h1, h2, h3⟩ := cross_in hh (by omega) hq hl
    have fin : ∀ b d : Bool, compK n k 0 = u → compK n k 1 = (if b then v else v + 1) → compK n k 2 = (if d then w else w + 1) → ∃ b d : Bool, k = ((if d then w else w + 1) * n + (if b then v else v + 1)) * n + u := fun b d e0 e1 e2 => by
      obtain ⟨g0, g1, g2, g3, _⟩ := cell_num h (hc b d).1 (hc b d).2.1 (hc b d).2.2
      refine ⟨b, d, cell_ext hk g0 fun c hc => ?_⟩
      have h3 : c = 0 ∨ c = 1 ∨ c = 2 := by omega
      rcases h3 with rfl | rfl | rfl
      · rw [g1, e0]
      · rw [g2, e1]
      · rw [g3, e2]
    unfold edgeL at he
    simp only [List.mem_cons, List.not_mem_nil, or_false] at he
    rcases he with rfl | rfl | rfl | rfl | rfl | rfl | rfl | rfl | rfl | rfl | rfl | rfl <;> simp only at h0 h1 h2 h3 <;>
      first
        | (exfalso; omega)
        | exact fin false false (by (try simp); omega) (by (try simp); omega) (by (try simp); omega)
        | exact fin true false (by (try simp); omega) (by (try simp); omega) (by (try simp); omega)
        | exact fin false true (by (try simp); omega) (by (try simp); omega) (by (try simp); omega)
        | exact fin true true (by (try simp); omega) (by (try simp); omega) (by (try simp); omega)
theorem ring_ax1 {h : Int} (hh : SideH h) {F : List Bool} {n : Nat} (ho : OutB F n) {u v w : Nat} (hu : u < n) (hv : v + 1 < n) (hw : w + 1 < n) (hX : XG F n (w + 1) u (v + 1) 1) : ∃ M : List (Pt × Pt), M.Perm (lkP (ctrL F n h (n * n * n)) (midG h (w + 1) u (v + 1) 1)) ∧ RingL M := by
  have hc : ∀ b d : Bool, (if d then w else w + 1) < n ∧ u < n ∧ (if b then v else v + 1) < n := fun b d => by cases b <;> cases d <;> simp <;> omega
  refine ring_cross hh ho (s := VF F n (w + 1) u (v + 1)) (a := 1) (fun b d => ((if b then v else v + 1) * n + u) * n + (if d then w else w + 1)) (fun b d => ((if b then 4 else 0) + (if d then 1 else 0), 1)) (fun b d => (cell_num h (hc b d).1 (hc b d).2.1 (hc b d).2.2).1) (fun b d => ?_) (fun k q hk hq hl => ?_)
  · obtain ⟨g0, g1, g2, g3, g4⟩ := cell_num h (hc b d).1 (hc b d).2.1 (hc b d).2.2
    have hem : ((if b then 4 else 0) + (if d then 1 else 0), 1) ∈ edgeL := by cases b <;> cases d <;> decide
    have hv8 : ((if b then 4 else 0) + (if d then 1 else 0)) < 8 := by cases b <;> cases d <;> decide
    have hv8' : ((if b then 4 else 0) + (if d then 1 else 0)) + 2 ^ 1 < 8 := by cases b <;> cases d <;> decide
    have i1 : insL (bitsF F n (((if b then v else v + 1) * n + u) * n + (if d then w else w + 1))) ((if b then 4 else 0) + (if d then 1 else 0)) = VF F n (w + 1) u (v + 1) := by
      rw [bits_V F n _ _ hv8, g1, g2, g3]
      cases b <;> cases d <;> rfl
    have i2 : insL (bitsF F n (((if b then v else v + 1) * n + u) * n + (if d then w else w + 1))) ((if b then 4 else 0) + (if d then 1 else 0) + 2 ^ 1) = VF F n ((w + 1) + (axU 1).1) (u + (axU 1).2.1) ((v + 1) + (axU 1).2.2) := by
      rw [bits_V F n _ _ hv8', g1, g2, g3]
      cases b <;> cases d <;> rfl
    refine ⟨List.mem_filter.2 ⟨hem, ?_⟩, rfl, by cases b <;> cases d <;> rfl, by cases b <;> cases d <;> rfl, i1, ?_⟩
    · show (insL _ _ != insL _ _) = true
      rw [i1, i2, bne_iff_ne]
      exact hX
    · rw [g4, (xPt_mid hh hem).1]
      unfold midG addP axU
      cases b <;> cases d <;> simp [Int.add_mul, Int.add_comm]
  · obtain ⟨e, he, h0, h1, h2, h3⟩ := cross_in hh (by omega) hq hl
    have fin : ∀ b d : Bool, compK n k 0 = (if d then w else w + 1) → compK n k 1 = u → compK n k 2 = (if b then v else v + 1) → ∃ b d : Bool, k = ((if b then v else v + 1) * n + u) * n + (if d then w else w + 1) := fun b d e0 e1 e2 => by
      obtain ⟨g0, g1, g2, g3, _⟩ := cell_num h (hc b d).1 (hc b d).2.1 (hc b d).2.2
      refine ⟨b, d, cell_ext hk g0 fun c hc => ?_⟩
      have h3 : c = 0 ∨ c = 1 ∨ c = 2 := by omega
      rcases h3 with rfl | rfl | rfl
      · rw [g1, e0]
      · rw [g2, e1]
      · rw [g3, e2]
    unfold edgeL at he
    simp only [List.mem_cons, List.not_mem_nil, or_false] at he
    rcases he with rfl | rfl | rfl | rfl | rfl | rfl | rfl | rfl | rfl | rfl | rfl | rfl <;> simp only at h0 h1 h2 h3 <;>
      first
        | (exfalso; omega)
        | exact fin false false (by (try simp); omega) (by (try simp); omega) (by (try simp); omega)
        | exact fin true false (by (try simp); omega) (by (try simp); omega) (by (try simp); omega)
        | exact fin false true (by (try simp); omega) (by (try simp); omega) (by (try simp); omega)
        | exact fin true true (by (try simp); omega) (by (try simp); omega) (by (try simp); omega)
theorem ring_ax2 {h : Int} (hh : SideH h) {F : List Bool} {n : Nat} (ho : OutB F n) {u v w : Nat} (hu : u < n) (hv : v + 1 < n) (hw : w + 1 < n) (hX : XG F n (v + 1) (w + 1) u 2) : ∃ M : List (Pt × Pt), M.Perm (lkP (ctrL F n h (n * n * n)) (midG h (v + 1) (w + 1) u 2)) ∧ RingL M := by
  have hc : ∀ b d : Bool, (if b then v else v + 1) < n ∧ (if d then w else w + 1) < n ∧ u < n := fun b d => by cases b <;> cases d <;> simp <;> omega
  refine ring_cross hh ho (s := VF F n (v + 1) (w + 1) u) (a := 2) (fun b d => (u * n + (if d then w else w + 1)) * n + (if b then v else v + 1)) (fun b d => ((if b then 1 else 0) + (if d then 2 else 0), 2)) (fun b d => (cell_num h (hc b d).1 (hc b d).2.1 (hc b d).2.2).1) (fun b d => ?_) (fun k q hk hq hl => ?_)
  · obtain ⟨g0, g1, g2, g3, g4⟩ := cell_num h (hc b d).1 (hc b d).2.1 (hc b d).2.2
    have hem : ((if b then 1 else 0) + (if d then 2 else 0), 2) ∈ edgeL := by cases b <;> cases d <;> decide
    have hv8 : ((if b then 1 else 0) + (if d then 2 else 0)) < 8 := by cases b <;> cases d <;> decide
    have hv8' : ((if b then 1 else 0) + (if d then 2 else 0)) + 2 ^ 2 < 8 := by cases b <;> cases d <;> decide
    have i1 : insL (bitsF F n ((u * n + (if d then w else w + 1)) * n + (if b then v else v + 1))) ((if b then 1 else 0) + (if d then 2 else 0)) = VF F n (v + 1) (w + 1) u := by
      rw [bits_V F n _ _ hv8, g1, g2, g3]
      cases b <;> cases d <;> rfl
    have i2 : insL (bitsF F n ((u * n + (if d then w else w + 1)) * n + (if b then v else v + 1))) ((if b then 1 else 0) + (if d then 2 else 0) + 2 ^ 2) = VF F n ((v + 1) + (axU 2).1) ((w + 1) + (axU 2).2.1) (u + (axU 2).2.2) := by
      rw [bits_V F n _ _ hv8', g1, g2, g3]
      cases b <;> cases d <;> rfl
    refine ⟨List.mem_filter.2 ⟨hem, ?_⟩, rfl, by cases b <;> cases d <;> rfl, by cases b <;> cases d <;> rfl, i1, ?_⟩
    · show (insL _ _ != insL _ _) = true
      rw [i1, i2, bne_iff_ne]
      exact hX
    · rw [g4, (xPt_mid hh hem).1]
      unfold midG addP axU
      cases b <;> cases d <;> simp [Int.add_mul, Int.add_comm]
  · obtain ⟨e, he, h0, h1, h2, h3⟩ := cross_in hh (by omega) hq hl
    have fin : ∀ b d : Bool, compK n k 0 = (if b then v else v + 1) → compK n k 1 = (if d then w else w + 1) → compK n k 2 = u → ∃ b d : Bool, k = (u * n + (if d then w else w + 1)) * n + (if b then v else v + 1) := fun b d e0 e1 e2 => by
      obtain ⟨g0, g1, g2, g3, _⟩ := cell_num h (hc b d).1 (hc b d).2.1 (hc b d).2.2
      refine ⟨b, d, cell_ext hk g0 fun c hc => ?_⟩
      have h3 : c = 0 ∨ c = 1 ∨ c = 2 := by omega
      rcases h3 with rfl | rfl | rfl
      · rw [g1, e0]
      · rw [g2, e1]
      · rw [g3, e2]
    unfold edgeL at he
    simp only [List.mem_cons, List.not_mem_nil, or_false] at he
    rcases he with rfl | rfl | rfl | rfl | rfl | rfl | rfl | rfl | rfl | rfl | rfl | rfl <;> simp only at h0 h1 h2 h3 <;>
      first
        | (exfalso; omega)
        | exact fin false false (by (try simp); omega) (by (try simp); omega) (by (try simp); omega)
        | exact fin true false (by (try simp); omega) (by (try simp); omega) (by (try simp); omega)
        | exact fin false true (by (try simp); omega) (by (try simp); omega) (by (try simp); omega)
        | exact fin true true (by (try simp); omega) (by (try simp); omega) (by (try simp); omega)
theorem ring_mid {h : Int} (hh : SideH h) {F : List Bool} {n : Nat} (ho : OutB F n) {x y z a : Nat} (ha : a < 3) (hx : x + (axU a).1 ≤ n) (hy : y + (axU a).2.1 ≤ n) (hz : z + (axU a).2.2 ≤ n) (hX : XG F n x y z a) : ∃ M : List (Pt × Pt), M.Perm (lkP (ctrL F n h (n * n * n)) (midG h x y z a)) ∧ RingL M := by
  have hin : ∃ x' y' z', VF F n x' y' z' = true ∧ ((x' = x ∧ y' = y ∧ z' = z) ∨ (x' = x + (axU a).1 ∧ y' = y + (axU a).2.1 ∧ z' = z + (axU a).2.2)) := by
    unfold XG at hX
    cases h1 : VF F n x y z with
    | true => exact ⟨_, _, _, h1, .inl ⟨rfl, rfl, rfl⟩⟩
    | false =>
      cases h2 : VF F n (x + (axU a).1) (y + (axU a).2.1) (z + (axU a).2.2) with
      | true => exact ⟨_, _, _, h2, .inr ⟨rfl, rfl, rfl⟩⟩
      | false => exact absurd (h1.trans h2.symm) hX
  obtain ⟨x', y', z', hV, hc⟩ := hin
  have hb : ¬ (x' = 0 ∨ y' = 0 ∨ z' = 0 ∨ x' = n ∨ y' = n ∨ z' = n) := fun hb => by
    rw [ho x' y' z' (by omega) (by omega) (by omega) hb] at hV
    cases hV
  have h3 : a = 0 ∨ a = 1 ∨ a = 2 := by omega
  rcases h3 with rfl | rfl | rfl
  · simp only [axU, if_true] at hx hy hz hc
    obtain ⟨y1, rfl⟩ : ∃ y1, y = y1 + 1 := ⟨y - 1, by omega⟩
    obtain ⟨z1, rfl⟩ : ∃ z1, z = z1 + 1 := ⟨z - 1, by omega⟩
    exact ring_ax0 hh ho (by omega) (by omega) (by omega) hX
  · simp only [axU, Nat.one_ne_zero, if_false, if_true] at hx hy hz hc
    obtain ⟨x1, rfl⟩ : ∃ x1, x = x1 + 1 := ⟨x - 1, by omega⟩
    obtain ⟨z1, rfl⟩ : ∃ z1, z = z1 + 1 := ⟨z - 1, by omega⟩
    exact ring_ax1 hh ho (by omega) (by omega) (by omega) hX
  · simp only [axU, show ¬ (2 = 0) by omega, show ¬ (2 = 1) by omega, if_false] at hx hy hz hc
    obtain ⟨x1, rfl⟩ : ∃ x1, x = x1 + 1 := ⟨x - 1, by omega⟩
    obtain ⟨y1, rfl⟩ : ∃ y1, y = y1 + 1 := ⟨y - 1, by omega⟩
    exact ring_ax2 hh ho (by omega) (by omega) (by omega) hX
theorem ax_pt {h : Int} (hh : SideH h) {c c' : Nat} {m m' : Int} (e : (c : Int) * h + m = (c' : Int) * h + m') (h1 : 0 < m ∧ m < h) (h2 : 0 ≤ m' ∧ m' ≤ h) : c = c' := by
  rcases hh with rfl | rfl | rfl <;> omega
/-- (C) One ring at each corner. -/
theorem ring_ctr {h : Int} (hh : SideH h) {F : List Bool} {n : Nat} (ho : OutB F n) {u : Tri} (hu : u ∈ ctrL F n h (n * n * n)) {p : Pt} (hp : CorOf u p) : ∃ M : List (Pt × Pt), M.Perm (lkP (ctrL F n h (n * n * n)) p) ∧ RingL M := by
  obtain ⟨k, t, hk, ht, rfl⟩ := ctr_mem hu
  obtain ⟨q, rfl, hq⟩ := corOf_sh hp
  rcases cor_first hh (bitsF_length F n k) ht hq with hi | _
  · have hr := lk_in hh (bitsF_length F n k) ht hq hi
    have hr' := hr.sh (svP n h k)
    refine ⟨_, (List.perm_ext_iff_of_nodup (nodup_map_of hr'.2.1) (nodup_map_of (lk_firsts (ed_nodup hh F n) _))).2 fun x => ?_, hr'⟩
    rw [mem_lk_ctr]
    constructor
    · intro hx
      obtain ⟨y, hy, rfl⟩ := List.mem_map.1 hx
      exact ⟨k, q, y, hk, rfl, hy, rfl⟩
    · rintro ⟨k', q', y, hk', e, hy, rfl⟩
      obtain ⟨t', ht', hc'⟩ := corOf_lk hy
      have hb := cor_bd hh (bitsF_length F n k') ht' hc'
      have e : addP (svP n h k) q = addP (svP n h k') q' := e
      have hkk : k = k' := cell_ext hk hk' fun a ha => by
        have ea := congrArg (fun p => compP p a) e
        simp only [compP_add, compP_sv] at ea
        have h3 : a = 0 ∨ a = 1 ∨ a = 2 := by omega
        rcases h3 with rfl | rfl | rfl
        · exact ax_pt hh ea hi.1 hb.1
        · exact ax_pt hh ea hi.2.1 hb.2.1
        · exact ax_pt hh ea hi.2.2 hb.2.2
      subst hkk
      rw [← addP_cancel _ e] at hy
      exact List.mem_map.2 ⟨y, hy, rfl⟩
  · rcases ctr_cor hh hu hp with ⟨c, r, hr, e⟩ | ⟨x, y, z, a, ha, hx, hy, hz, hX, e⟩
    · rename_i hcr
      obtain ⟨e', he', rfl⟩ := hcr
      exfalso
      have hem := (List.mem_filter.1 he').1
      obtain ⟨m1, m2, _⟩ := xPt_mid hh hem
      have e1 : addP (svP n h k) (midG h (e'.1 % 2) (e'.1 / 2 % 2) (e'.1 / 4 % 2) e'.2) = midG h (compK n k 0 + e'.1 % 2) (compK n k 1 + e'.1 / 2 % 2) (compK n k 2 + e'.1 / 4 % 2) e'.2 := by
        unfold midG addP svP cellAt compK
        push_cast
        simp only [Int.add_mul, Int.add_assoc]
      have w1 := inB_whole hh (c := c) hr
      rw [← e] at w1
      change wholeP h (addP (svP n h k) (xPt h e')) = 0 at w1
      rw [m1, e1, midG_whole hh m2] at w1
      cases w1
    · change ∃ M : List (Pt × Pt), M.Perm (lkP (ctrL F n h (n * n * n)) (addP ((cellAt n k).1 * h, (cellAt n k).2.1 * h, (cellAt n k).2.2 * h) q)) ∧ RingL M
      rw [e]
      exact ring_mid hh ho ha hx hy hz hX
/-! In canonical form. -/
theorem flat_perm {α β : Type} {f g : α → List β} : ∀ l : List α, (∀ t ∈ l, (f t).Perm (g t)) → (l.flatMap f).Perm (l.flatMap g)
  | [], _ => List.Perm.refl _
  | t :: l, h => by
    rw [List.flatMap_cons, List.flatMap_cons]
    exact (h t (by simp)).append (flat_perm l fun u hu => h u (by simp [hu]))
theorem perm_rot3 {α : Type} (a b c : List α) : (b ++ (c ++ a)).Perm (a ++ (b ++ c)) := by
  rw [← List.append_assoc]
  exact List.perm_append_comm
theorem lk1_cyc (t : Tri) (p : Pt) : (lk1 (cycT8 t) p).Perm (lk1 t p) := perm_rot3 _ _ _
theorem lk1_rot (t : Tri) (p : Pt) : (lk1 (rotT t) p).Perm (lk1 t p) := by
  rcases rotT_cases t with e | e | e <;> rw [e]
  · exact lk1_cyc t p
  · exact (lk1_cyc (cycT8 t) p).trans (lk1_cyc t p)
theorem edges3_cyc (t : Tri) : (edges3 (cycT8 t)).Perm (edges3 t) := perm_rot3 [(t.1, t.2.1)] [(t.2.1, t.2.2)] [(t.2.2, t.1)]
theorem edges3_rot (t : Tri) : (edges3 (rotT t)).Perm (edges3 t) := by
  rcases rotT_cases t with e | e | e <;> rw [e]
  · exact edges3_cyc t
  · exact (edges3_cyc (cycT8 t)).trans (edges3_cyc t)
theorem lk_canon (S : List Tri) (p : Pt) : (lkP (canonT S) p).Perm (lkP S p) := by
  unfold lkP
  refine ((canonT_perm S).flatMap_right _).trans ?_
  rw [List.flatMap_map]
  exact flat_perm S fun t _ => lk1_rot t p
theorem ed_canon (S : List Tri) : (edgesP (canonT S)).Perm (edgesP S) := by
  unfold edgesP
  refine ((canonT_perm S).flatMap_right _).trans ?_
  rw [List.flatMap_map]
  exact flat_perm S fun t _ => edges3_rot t
/-- Check finds nothing in the surface of a valid field. -/
theorem check_contour {l : Nat} {F : List Bool} (h1 : 1 ≤ l) (h3 : l ≤ 3) (hv : validF l F = true) : checkP (contourP l F) false = 0 := by
  have hh : SideH ((2 ^ (21 - l) : Nat) : Int) := sideE h1 h3
  obtain ⟨hF, hok⟩ := valid_parts hv
  have ho := out_of hF hok
  rw [contour_lvl hv]
  refine check_none ?_ ?_ ?_ ?_
  · intro t ht
    obtain ⟨u, hu, rfl⟩ := canon_mem.1 ht
    exact distT8_rot (dist_ctr hh F _ _ u hu)
  · exact (ed_canon _).nodup_iff.2 (ed_nodup hh F (2 ^ l))
  · intro e he
    exact (ed_canon _).mem_iff.2 (ed_both hh ho ((ed_canon _).mem_iff.1 he))
  · rintro p ⟨t, ht, hp⟩
    obtain ⟨u, hu, rfl⟩ := canon_mem.1 ht
    obtain ⟨M, hM, hr⟩ := ring_ctr hh ho hu (CorOf.rot.1 hp)
    exact ⟨M, hM.trans (lk_canon _ p).symm, hr⟩
end Go.Proofs.Ytfljcgehhnmamaa
/- Layer 8, plain: the volume of a field's surface, and its range. No program. -/
namespace Go.Proofs.Ytfljcgehhnmamaa
open Go.RowKit
theorem detT_cyc (t : Tri) : detT (cycT8 t) = detT t := by
  unfold detT detP cycT8
  grind
theorem detT_rot (t : Tri) : detT (rotT t) = detT t := by
  rcases rotT_cases t with e | e | e <;> rw [e]
  · rw [detT_cyc]
  · rw [detT_cyc, detT_cyc]
theorem volP_rot (C : List Tri) : volP (C.map rotT) = volP C := by
  unfold volP
  rw [List.map_map]
  congr 1
  exact List.map_congr_left fun t _ => detT_rot t
theorem volP_canon (C : List Tri) : volP (canonT C) = volP C := by
  rw [volP_perm (canonT_perm C), volP_rot]
/-- Twice the area, as a vector. -/
def arT (t : Tri) : Pt :=
  let (p, q, r) := t
  ((p.2.1 * q.2.2 - p.2.2 * q.2.1) + (q.2.1 * r.2.2 - q.2.2 * r.2.1) + (r.2.1 * p.2.2 - r.2.2 * p.2.1),
   (p.2.2 * q.1 - p.1 * q.2.2) + (q.2.2 * r.1 - q.1 * r.2.2) + (r.2.2 * p.1 - r.1 * p.2.2),
   (p.1 * q.2.1 - p.2.1 * q.1) + (q.1 * r.2.1 - q.2.1 * r.1) + (r.1 * p.2.1 - r.2.1 * p.1))
def arL : List Tri → Pt
  | [] => (0, 0, 0)
  | t :: C => addP (arT t) (arL C)
theorem detT_sh (v : Pt) (t : Tri) : detT (shT v t) = detT t + (v.1 * (arT t).1 + v.2.1 * (arT t).2.1 + v.2.2 * (arT t).2.2) := by
  obtain ⟨⟨a, b, c⟩, ⟨d, e, f⟩, g, h, i⟩ := t
  obtain ⟨x, y, z⟩ := v
  unfold detT detP shT arT addP
  dsimp only
  grind
theorem volP_sh (v : Pt) (C : List Tri) : volP (C.map (shT v)) = volP C + (v.1 * (arL C).1 + v.2.1 * (arL C).2.1 + v.2.2 * (arL C).2.2) := by
  induction C with
  | nil => simp [volP, arL]
  | cons t C ih =>
    rw [List.map_cons, volP_cons, volP_cons, ih, detT_sh, show arL (t :: C) = addP (arT t) (arL C) from rfl]
    generalize arL C = A
    generalize arT t = B
    unfold addP
    dsimp only
    grind
/-- Twice the inside part of a face, in quarters of the face's side squared. -/
def tw4 (a b c d : Bool) : Int :=
  match a, b, c, d with
  | false, false, false, false => 0
  | true, true, true, true => 8
  | true, false, true, false => 2
  | false, true, false, true => 2
  | true, true, false, false => 4
  | false, true, true, false => 4
  | false, false, true, true => 4
  | true, false, false, true => 4
  | true, true, true, false => 7
  | true, true, false, true => 7
  | true, false, true, true => 7
  | false, true, true, true => 7
  | _, _, _, _ => 1
def twF (ins : Nat → Bool) (a : Nat) (pos : Bool) : Int := tw4 (ins (ringV a pos 0)) (ins (ringV a pos 1)) (ins (ringV a pos 2)) (ins (ringV a pos 3))
def cellV (h : Int) (l : List Bool) : Int := volP (cellTs l (0, 0, 0) h) + h * ((h / 2) * (h / 2)) * (twF (insL l) 0 true + twF (insL l) 1 true + twF (insL l) 2 true)
def volChk (h : Int) (l : List Bool) : Bool :=
  decide (arL (cellTs l (0, 0, 0) h) = ((h / 2) * (h / 2) * (twF (insL l) 0 false - twF (insL l) 0 true), (h / 2) * (h / 2) * (twF (insL l) 1 false - twF (insL l) 1 true), (h / 2) * (h / 2) * (twF (insL l) 2 false - twF (insL l) 2 true))) &&
  (decide (0 ≤ cellV h l) && (decide (0 < cellV h l) == l.contains true))
set_option maxRecDepth 100000 in
theorem vol_all3 : ((allL 8).all (volChk 262144)) = true := by decide +kernel
set_option maxRecDepth 100000 in
theorem vol_all2 : ((allL 8).all (volChk 524288)) = true := by decide +kernel
set_option maxRecDepth 100000 in
theorem vol_all1 : ((allL 8).all (volChk 1048576)) = true := by decide +kernel
theorem vol_chk {h : Int} (hh : SideH h) {l : List Bool} (hl : l.length = 8) : volChk h l = true := by
  have hm := mem_allL 8 l hl
  rcases hh with rfl | rfl | rfl
  · exact List.all_eq_true.1 vol_all3 l hm
  · exact List.all_eq_true.1 vol_all2 l hm
  · exact List.all_eq_true.1 vol_all1 l hm
theorem vol_parts {h : Int} (hh : SideH h) {l : List Bool} (hl : l.length = 8) : arL (cellTs l (0, 0, 0) h) = ((h / 2) * (h / 2) * (twF (insL l) 0 false - twF (insL l) 0 true), (h / 2) * (h / 2) * (twF (insL l) 1 false - twF (insL l) 1 true), (h / 2) * (h / 2) * (twF (insL l) 2 false - twF (insL l) 2 true)) ∧ 0 ≤ cellV h l ∧ (l.contains true = true → 0 < cellV h l) := by
  have hc := vol_chk hh hl
  unfold volChk at hc
  simp only [Bool.and_eq_true, decide_eq_true_eq, beq_iff_eq] at hc
  exact ⟨hc.1, hc.2.1, fun e => by rw [e] at hc; exact of_decide_eq_true hc.2.2⟩
/-! Sums. -/
def sumN (f : Nat → Int) : Nat → Int
  | 0 => 0
  | n + 1 => sumN f n + f n
theorem sumN_congr {f g : Nat → Int} : ∀ {n}, (∀ i, i < n → f i = g i) → sumN f n = sumN g n
  | 0, _ => rfl
  | n + 1, h => by rw [sumN, sumN, sumN_congr (n := n) fun i hi => h i (by omega), h n (by omega)]
theorem sumN_add (f g : Nat → Int) : ∀ n, sumN (fun i => f i + g i) n = sumN f n + sumN g n
  | 0 => by simp [sumN]
  | n + 1 => by rw [sumN, sumN, sumN, sumN_add f g n]; omega
theorem sumN_sub (f g : Nat → Int) : ∀ n, sumN (fun i => f i - g i) n = sumN f n - sumN g n
  | 0 => by simp [sumN]
  | n + 1 => by rw [sumN, sumN, sumN, sumN_sub f g n]; omega
theorem sumN_mul (c : Int) (f : Nat → Int) : ∀ n, sumN (fun i => c * f i) n = c * sumN f n
  | 0 => by simp [sumN]
  | n + 1 => by rw [sumN, sumN, sumN_mul c f n, Int.mul_add]
theorem sumN_zero : ∀ n, sumN (fun _ => 0) n = 0
  | 0 => rfl
  | n + 1 => by rw [sumN, sumN_zero n]; rfl
theorem sumN_split (f : Nat → Int) (a : Nat) : ∀ b, sumN f (a + b) = sumN f a + sumN (fun i => f (a + i)) b
  | 0 => by simp [sumN]
  | b + 1 => by rw [← Nat.add_assoc, sumN, sumN, sumN_split f a b]; omega
theorem sumN_nonneg {f : Nat → Int} : ∀ {n}, (∀ i, i < n → 0 ≤ f i) → 0 ≤ sumN f n
  | 0, _ => by simp [sumN]
  | n + 1, h => by
    have a := sumN_nonneg (n := n) fun i hi => h i (by omega)
    have b := h n (by omega)
    rw [sumN]; omega
theorem sumN_pos {f : Nat → Int} : ∀ {n}, (∀ i, i < n → 0 ≤ f i) → (∃ i, i < n ∧ 0 < f i) → 0 < sumN f n
  | 0, _, ⟨_, h, _⟩ => by omega
  | n + 1, h, ⟨i, hi, hp⟩ => by
    have b := h n (by omega)
    rw [sumN]
    by_cases e : i = n
    · subst e
      have a := sumN_nonneg (n := i) fun j hj => h j (by omega)
      omega
    · have a := sumN_pos (n := n) (fun j hj => h j (by omega)) ⟨i, by omega, hp⟩
      omega
theorem sumN_tele (f : Nat → Int) : ∀ n : Nat, sumN (fun x => (x : Int) * (f x - f (x + 1))) n = sumN (fun x => f (x + 1)) n - n * f n
  | 0 => by simp [sumN]
  | n + 1 => by
    rw [sumN, sumN, sumN_tele f n]
    push_cast
    grind
theorem sumN_two (H : Nat → Nat → Int) {n : Nat} (hn : 0 < n) : ∀ m, sumN (fun k => H (k % n) (k / n)) (n * m) = sumN (fun q => sumN (fun r => H r q) n) m
  | 0 => by simp [sumN]
  | m + 1 => by
    rw [Nat.mul_succ, sumN_split, sumN_two H hn m, sumN]
    congr 1
    refine sumN_congr fun i hi => ?_
    rw [Nat.mul_add_mod, Nat.mod_eq_of_lt hi, Nat.mul_add_div hn, Nat.div_eq_of_lt hi, Nat.add_zero]
theorem sumN_three (G : Nat → Nat → Nat → Int) {n : Nat} (hn : 0 < n) : sumN (fun k => G (k % n) (k / n % n) (k / n / n)) (n * n * n) = sumN (fun z => sumN (fun y => sumN (fun x => G x y z) n) n) n := by
  have h1 := sumN_two (fun r q => G r (q % n) (q / n)) hn (n * n)
  rw [Nat.mul_assoc]
  rw [h1]
  exact sumN_two (fun r q => sumN (fun x => G x r q) n) hn n
/-- Along x, y, z: sums by parts. -/
theorem tele_x (f : Nat → Nat → Nat → Int) {n : Nat} (hn : 0 < n) (h0 : ∀ y z, y < n → z < n → f n y z = 0) :
    sumN (fun k => ((k % n : Nat) : Int) * (f (k % n) (k / n % n) (k / n / n) - f (k % n + 1) (k / n % n) (k / n / n))) (n * n * n) = sumN (fun k => f (k % n + 1) (k / n % n) (k / n / n)) (n * n * n) := by
  have a := sumN_three (fun x y z => (x : Int) * (f x y z - f (x + 1) y z)) hn
  have b := sumN_three (fun x y z => f (x + 1) y z) hn
  rw [a, b]
  refine sumN_congr fun z hz => sumN_congr fun y hy => ?_
  rw [sumN_tele (fun x => f x y z), h0 y z hy hz]
  simp
theorem tele_y (f : Nat → Nat → Nat → Int) {n : Nat} (hn : 0 < n) (h0 : ∀ x z, x < n → z < n → f x n z = 0) :
    sumN (fun k => ((k / n % n : Nat) : Int) * (f (k % n) (k / n % n) (k / n / n) - f (k % n) (k / n % n + 1) (k / n / n))) (n * n * n) = sumN (fun k => f (k % n) (k / n % n + 1) (k / n / n)) (n * n * n) := by
  have a := sumN_three (fun x y z => (y : Int) * (f x y z - f x (y + 1) z)) hn
  have b := sumN_three (fun x y z => f x (y + 1) z) hn
  rw [a, b]
  refine sumN_congr fun z hz => ?_
  have c := sumN_tele (fun y => sumN (fun x => f x y z) n) n
  rw [show sumN (fun x => f x n z) n = 0 from (sumN_congr fun x hx => h0 x z hx hz).trans (sumN_zero n)] at c
  rw [Int.mul_zero, Int.sub_zero] at c
  rw [← c]
  refine sumN_congr fun y _ => ?_
  rw [sumN_mul, sumN_sub]
theorem tele_z (f : Nat → Nat → Nat → Int) {n : Nat} (hn : 0 < n) (h0 : ∀ x y, x < n → y < n → f x y n = 0) :
    sumN (fun k => ((k / n / n : Nat) : Int) * (f (k % n) (k / n % n) (k / n / n) - f (k % n) (k / n % n) (k / n / n + 1))) (n * n * n) = sumN (fun k => f (k % n) (k / n % n) (k / n / n + 1)) (n * n * n) := by
  have a := sumN_three (fun x y z => (z : Int) * (f x y z - f x y (z + 1))) hn
  have b := sumN_three (fun x y z => f x y (z + 1)) hn
  rw [a, b]
  have c := sumN_tele (fun z => sumN (fun y => sumN (fun x => f x y z) n) n) n
  rw [show sumN (fun y => sumN (fun x => f x y n) n) n = 0 from (sumN_congr fun y hy => (sumN_congr fun x hx => h0 x y hx hy).trans (sumN_zero n)).trans (sumN_zero n)] at c
  rw [Int.mul_zero, Int.sub_zero] at c
  rw [← c]
  refine sumN_congr fun z _ => ?_
  have : ∀ y, sumN (fun x => (z : Int) * (f x y z - f x y (z + 1))) n = (z : Int) * (sumN (fun x => f x y z) n - sumN (fun x => f x y (z + 1)) n) := fun y => by rw [sumN_mul, sumN_sub]
  rw [show (fun y => sumN (fun x => (z : Int) * (f x y z - f x y (z + 1))) n) = fun y => (z : Int) * (sumN (fun x => f x y z) n - sumN (fun x => f x y (z + 1)) n) from funext this]
  rw [sumN_mul, sumN_sub]
/-! The faces of a grid. -/
def fx (F : List Bool) (n x y z : Nat) : Int := tw4 (VF F n x y z) (VF F n x (y + 1) z) (VF F n x (y + 1) (z + 1)) (VF F n x y (z + 1))
def fy (F : List Bool) (n x y z : Nat) : Int := tw4 (VF F n x y z) (VF F n x y (z + 1)) (VF F n (x + 1) y (z + 1)) (VF F n (x + 1) y z)
def fz (F : List Bool) (n x y z : Nat) : Int := tw4 (VF F n x y z) (VF F n (x + 1) y z) (VF F n (x + 1) (y + 1) z) (VF F n x (y + 1) z)
theorem bits_VF (F : List Bool) (n k v : Nat) (hv : v < 8) : insL (bitsF F n k) v = VF F n (k % n + v % 2) (k / n % n + v / 2 % 2) (k / n / n + v / 4 % 2) := by
  rw [insL_bits _ _ _ _ hv, insF_V]
theorem twF_x (F : List Bool) (n k : Nat) : twF (insL (bitsF F n k)) 0 false = fx F n (k % n) (k / n % n) (k / n / n) ∧ twF (insL (bitsF F n k)) 0 true = fx F n (k % n + 1) (k / n % n) (k / n / n) := by
  constructor <;> (unfold twF ringV fx; simp only [reduceIte, Nat.reduceMod, Nat.reduceAdd, Nat.reducePow, Nat.reduceEqDiff, or_self, or_true, or_false, Nat.zero_add, Nat.add_zero, Bool.false_eq_true]; rw [bits_VF _ _ _ _ (by omega), bits_VF _ _ _ _ (by omega), bits_VF _ _ _ _ (by omega), bits_VF _ _ _ _ (by omega)]; rfl)
theorem twF_y (F : List Bool) (n k : Nat) : twF (insL (bitsF F n k)) 1 false = fy F n (k % n) (k / n % n) (k / n / n) ∧ twF (insL (bitsF F n k)) 1 true = fy F n (k % n) (k / n % n + 1) (k / n / n) := by
  constructor <;> (unfold twF ringV fy; simp only [reduceIte, Nat.reduceMod, Nat.reduceAdd, Nat.reducePow, Nat.reduceEqDiff, or_self, or_true, or_false, Nat.zero_add, Nat.add_zero, Bool.false_eq_true]; rw [bits_VF _ _ _ _ (by omega), bits_VF _ _ _ _ (by omega), bits_VF _ _ _ _ (by omega), bits_VF _ _ _ _ (by omega)]; rfl)
theorem twF_z (F : List Bool) (n k : Nat) : twF (insL (bitsF F n k)) 2 false = fz F n (k % n) (k / n % n) (k / n / n) ∧ twF (insL (bitsF F n k)) 2 true = fz F n (k % n) (k / n % n) (k / n / n + 1) := by
  constructor <;> (unfold twF ringV fz; simp only [reduceIte, Nat.reduceMod, Nat.reduceAdd, Nat.reducePow, Nat.reduceEqDiff, or_self, or_true, or_false, Nat.zero_add, Nat.add_zero, Bool.false_eq_true]; rw [bits_VF _ _ _ _ (by omega), bits_VF _ _ _ _ (by omega), bits_VF _ _ _ _ (by omega), bits_VF _ _ _ _ (by omega)]; rfl)
theorem fx_end {F : List Bool} {n : Nat} (ho : OutB F n) (y z : Nat) (hy : y < n) (hz : z < n) : fx F n n y z = 0 := by
  unfold fx
  rw [ho n y z (by omega) (by omega) (by omega) (by simp), ho n (y + 1) z (by omega) (by omega) (by omega) (by simp), ho n (y + 1) (z + 1) (by omega) (by omega) (by omega) (by simp), ho n y (z + 1) (by omega) (by omega) (by omega) (by simp)]
  rfl
theorem fy_end {F : List Bool} {n : Nat} (ho : OutB F n) (x z : Nat) (hx : x < n) (hz : z < n) : fy F n x n z = 0 := by
  unfold fy
  rw [ho x n z (by omega) (by omega) (by omega) (by simp), ho x n (z + 1) (by omega) (by omega) (by omega) (by simp), ho (x + 1) n (z + 1) (by omega) (by omega) (by omega) (by simp), ho (x + 1) n z (by omega) (by omega) (by omega) (by simp)]
  rfl
theorem fz_end {F : List Bool} {n : Nat} (ho : OutB F n) (x y : Nat) (hx : x < n) (hy : y < n) : fz F n x y n = 0 := by
  unfold fz
  rw [ho x y n (by omega) (by omega) (by omega) (by simp), ho (x + 1) y n (by omega) (by omega) (by omega) (by simp), ho (x + 1) (y + 1) n (by omega) (by omega) (by omega) (by simp), ho x (y + 1) n (by omega) (by omega) (by omega) (by simp)]
  rfl
theorem volP_ctr (F : List Bool) (n : Nat) (h : Int) : ∀ m, volP (ctrL F n h m) = sumN (fun k => volP (cellTs (bitsF F n k) (cellAt n k) h)) m
  | 0 => by simp [ctrL, volP, sumN]
  | m + 1 => by rw [ctrL_succ, volP_append, volP_ctr F n h m, sumN]
/-- The volume, cell by cell. -/
theorem vol_cells {h : Int} (hh : SideH h) {F : List Bool} {n : Nat} (hn : 0 < n) (ho : OutB F n) : volP (ctrL F n h (n * n * n)) = sumN (fun k => cellV h (bitsF F n k)) (n * n * n) := by
  rw [volP_ctr]
  have g1 : ∀ k, volP (cellTs (bitsF F n k) (cellAt n k) h) = volP (cellTs (bitsF F n k) (0, 0, 0) h) + h * ((h / 2) * (h / 2)) * ((((k % n : Nat) : Int) * (fx F n (k % n) (k / n % n) (k / n / n) - fx F n (k % n + 1) (k / n % n) (k / n / n)) + ((k / n % n : Nat) : Int) * (fy F n (k % n) (k / n % n) (k / n / n) - fy F n (k % n) (k / n % n + 1) (k / n / n))) + ((k / n / n : Nat) : Int) * (fz F n (k % n) (k / n % n) (k / n / n) - fz F n (k % n) (k / n % n) (k / n / n + 1))) := fun k => by
    have hp := (vol_parts hh (bitsF_length F n k)).1
    rw [(twF_x F n k).1, (twF_x F n k).2, (twF_y F n k).1, (twF_y F n k).2, (twF_z F n k).1, (twF_z F n k).2] at hp
    rw [cellTs_shift (bitsF_length F n k), volP_sh, hp]
    unfold cellAt
    dsimp only
    grind
  have g2 : ∀ k, cellV h (bitsF F n k) = volP (cellTs (bitsF F n k) (0, 0, 0) h) + h * ((h / 2) * (h / 2)) * ((fx F n (k % n + 1) (k / n % n) (k / n / n) + fy F n (k % n) (k / n % n + 1) (k / n / n)) + fz F n (k % n) (k / n % n) (k / n / n + 1)) := fun k => by
    unfold cellV
    rw [(twF_x F n k).2, (twF_y F n k).2, (twF_z F n k).2]
  rw [sumN_congr fun k _ => g1 k, sumN_congr fun k _ => g2 k, sumN_add, sumN_add, sumN_mul, sumN_mul, sumN_add, sumN_add, sumN_add, sumN_add]
  rw [tele_x (fx F n) hn (fx_end ho), tele_y (fy F n) hn (fy_end ho), tele_z (fz F n) hn (fz_end ho)]
/-- A surface is empty if nothing is inside; else its volume is positive. -/
theorem vol_none {F : List Bool} (n : Nat) (h : Int) (hF : F.contains true = false) : ∀ m, ctrL F n h m = []
  | 0 => by simp [ctrL]
  | m + 1 => by
    have hg : ∀ i, F.getD i false = false := fun i => by
      cases e : F.getD i false with
      | false => rfl
      | true =>
        rw [List.getD_eq_getElem?_getD] at e
        cases e2 : F[i]? with
        | none => rw [e2] at e; cases e
        | some b =>
          rw [e2] at e
          have hm := List.mem_of_getElem? e2
          rw [show b = true from e] at hm
          rw [List.contains_iff_mem.2 hm] at hF
          cases hF
    rw [ctrL_succ, vol_none n h hF m]
    have e : mixN (insL (bitsF F n m)) 8 = false := by
      unfold mixN
      rw [Bool.eq_false_iff]
      intro hm
      obtain ⟨v, hv, hne⟩ := List.any_eq_true.1 hm
      have hv := List.mem_range.1 hv
      rw [bits_VF _ _ _ _ hv, bits_VF _ _ _ _ (by omega)] at hne
      unfold VF at hne
      rw [hg, hg] at hne
      cases hne
    unfold cellTs
    rw [mix_not _ (bitsF_length F n m) e]
    rfl
theorem vol_some {h : Int} (hh : SideH h) {F : List Bool} {n : Nat} (hF : F.length = (n + 1) * (n + 1) * (n + 1)) (ho : OutB F n) (hs : F.contains true = true) : 0 < volP (ctrL F n h (n * n * n)) := by
  obtain ⟨i, hi, hv⟩ := List.getElem_of_mem (List.contains_iff_mem.1 hs)
  rw [hF] at hi
  obtain ⟨a1, a2, a3, a4⟩ := three_of hi
  have hV : VF F n (i % (n + 1)) (i / (n + 1) % (n + 1)) (i / (n + 1) / (n + 1)) = true := by
    unfold VF
    rw [← a4, List.getD_eq_getElem?_getD, List.getElem?_eq_getElem (by omega), hv]
    rfl
  generalize i % (n + 1) = x at *
  generalize i / (n + 1) % (n + 1) = y at *
  generalize i / (n + 1) / (n + 1) = z at *
  have hb : ¬ (x = 0 ∨ y = 0 ∨ z = 0 ∨ x = n ∨ y = n ∨ z = n) := fun hb => by
    rw [ho x y z (by omega) (by omega) (by omega) hb] at hV
    cases hV
  have hx : x < n := by omega
  have hy : y < n := by omega
  have hz : z < n := by omega
  rw [vol_cells hh (by omega) ho]
  refine sumN_pos (fun k _ => (vol_parts hh (bitsF_length F n k)).2.1) ⟨(z * n + y) * n + x, three_lt hx hy hz, (vol_parts hh (bitsF_length F n _)).2.2 ?_⟩
  obtain ⟨e1, e2, e3⟩ := cell_no (z := z) hx hy
  have h0 : insL (bitsF F n ((z * n + y) * n + x)) 0 = true := by
    rw [bits_VF _ _ _ _ (by omega), e1, e2, e3]
    exact hV
  unfold insL at h0
  rw [List.getD_eq_getElem?_getD, List.getElem?_eq_getElem (by rw [bitsF_length]; omega)] at h0
  refine List.contains_iff_mem.2 ?_
  rw [← show (bitsF F n ((z * n + y) * n + x))[0]'(by rw [bitsF_length]; omega) = true from h0]
  exact List.getElem_mem _
/-- Volume, emptiness of a level's surface. -/
theorem contour_vol {l : Nat} {F : List Bool} (h1 : 1 ≤ l) (h3 : l ≤ 3) (hv : validF l F = true) : (decide (0 < volP (contourP l F)) = F.contains true) ∧ (decide (0 < (contourP l F).length) = F.contains true) := by
  have hh : SideH ((2 ^ (21 - l) : Nat) : Int) := sideE h1 h3
  obtain ⟨hF, hok⟩ := valid_parts hv
  have ho := out_of hF hok
  rw [contour_lvl hv, volP_canon]
  cases hs : F.contains true with
  | false =>
    rw [vol_none _ _ hs]
    have e : (canonT []).length = 0 := (canonT_perm []).length_eq
    rw [e]
    exact ⟨by decide, by decide⟩
  | true =>
    have hp := vol_some hh hF ho hs
    refine ⟨decide_eq_true hp, decide_eq_true ?_⟩
    rw [(canonT_perm _).length_eq, List.length_map]
    refine List.length_pos_iff.2 fun e => ?_
    rw [e] at hp
    simp [volP] at hp
/-! The range. -/
theorem midG_ne {h : Int} (hh : SideH h) {F : List Bool} {n x y z a : Nat} (ho : OutB F n) (ha : a < 3) (hx : x + (axU a).1 ≤ n) (hy : y + (axU a).2.1 ≤ n) (hz : z + (axU a).2.2 ≤ n) (hX : XG F n x y z a) :
    (midG h x y z a).1 < n * h ∧ (midG h x y z a).2.1 < n * h ∧ (midG h x y z a).2.2 < n * h := by
  have h0 : 0 < h := by rcases hh with rfl | rfl | rfl <;> decide
  have h2 : h / 2 < h := by rcases hh with rfl | rfl | rfl <;> decide
  have key : ∀ c : Nat, c < n → (c : Int) * h + h ≤ n * h := fun c hc => by
    have := Int.mul_le_mul_of_nonneg_right (show (c : Int) + 1 ≤ n by omega) (Int.le_of_lt h0)
    rw [Int.add_mul, Int.one_mul] at this
    exact this
  have ne : ∀ b c d : Nat, x + (axU a).1 ≤ n → (x = n → False) ∧ (y = n → False) ∧ (z = n → False) := fun _ _ _ _ => by
    refine ⟨fun e => hX ?_, fun e => hX ?_, fun e => hX ?_⟩ <;>
      (rw [ho x y z (by omega) (by omega) (by omega) (by simp [e]), ho _ _ _ hx hy hz (by omega)])
  obtain ⟨n1, n2, n3⟩ := ne 0 0 0 hx
  have lt : ∀ c : Nat, c ≤ n → (c = n → False) → c < n := fun c h1 h2 => by
    rcases Nat.lt_or_ge c n with h | h
    · exact h
    · exact (h2 (by omega)).elim
  have k1 := key x (lt x (by omega) n1)
  have k2 := key y (lt y (by omega) n2)
  have k3 := key z (lt z (by omega) n3)
  have hc : a = 0 ∨ a = 1 ∨ a = 2 := by omega
  unfold midG
  rcases hc with rfl | rfl | rfl <;> (simp only [axU]; simp; omega)
def lowR (p : Pt) : Prop := (0 ≤ p.1 ∧ p.1 ≤ 2097151) ∧ (0 ≤ p.2.1 ∧ p.2.1 ≤ 2097151) ∧ (0 ≤ p.2.2 ∧ p.2.2 ≤ 2097151)
theorem ctr_lt {h : Int} (hh : SideH h) {F : List Bool} {n : Nat} (ho : OutB F n) {t : Tri} (ht : t ∈ ctrL F n h (n * n * n)) {p : Pt} (hp : CorOf t p) : p.1 < n * h ∧ p.2.1 < n * h ∧ p.2.2 < n * h := by
  rcases ctr_cor hh ht hp with ⟨c, q, hi, rfl⟩ | ⟨x, y, z, a, ha, hx, hy, hz, hX, rfl⟩
  · have hb := ctr_bd hh ht hp
    have h0 : 0 < h := by rcases hh with rfl | rfl | rfl <;> decide
    have key : ∀ c q : Int, 0 < q → q < h → c * h + q ≤ n * h → c * h + q < n * h := fun c q h1 h2 h3 => by
      rcases Int.lt_or_le (c * h + q) (n * h) with h6 | h6
      · exact h6
      exfalso
      have e : c * h + q = n * h := by omega
      have e2 : q = ((n : Int) - c) * h := by rw [Int.sub_mul]; omega
      have h4 : 0 < (n : Int) - c := by
        rcases Int.lt_or_le 0 ((n : Int) - c) with h5 | h5
        · exact h5
        · have := Int.mul_le_mul_of_nonneg_right h5 (Int.le_of_lt h0)
          rw [← e2, Int.zero_mul] at this
          omega
      have := Int.mul_le_mul_of_nonneg_right (show 1 ≤ (n : Int) - c by omega) (Int.le_of_lt h0)
      rw [← e2, Int.one_mul] at this
      omega
    unfold addP at hb ⊢
    dsimp only at hb ⊢
    exact ⟨key _ _ hi.1.1 hi.1.2 hb.1.2, key _ _ hi.2.1.1 hi.2.1.2 hb.2.1.2, key _ _ hi.2.2.1 hi.2.2.2 hb.2.2.2⟩
  · exact midG_ne hh ho ha hx hy hz hX
theorem contour_low {l : Nat} {F : List Bool} (h1 : 1 ≤ l) (h3 : l ≤ 3) (hv : validF l F = true) {t : Tri} (ht : t ∈ contourP l F) {p : Pt} (hp : CorOf t p) : lowR p := by
  have hh : SideH ((2 ^ (21 - l) : Nat) : Int) := sideE h1 h3
  obtain ⟨hF, hok⟩ := valid_parts hv
  have ho := out_of hF hok
  have hr := contour_cor h1 h3 hv ht hp
  rw [contour_lvl hv] at ht
  obtain ⟨u, hu, rfl⟩ := canon_mem.1 ht
  have hb := ctr_lt hh ho hu (CorOf.rot.1 hp)
  have e : ((2 ^ l : Nat) : Int) * ((2 ^ (21 - l) : Nat) : Int) = 2097152 := by
    have hc : l = 1 ∨ l = 2 ∨ l = 3 := by omega
    rcases hc with rfl | rfl | rfl <;> decide
  rw [e] at hb
  unfold rangeP at hr
  unfold lowR
  omega
end Go.Proofs.Ytfljcgehhnmamaa
