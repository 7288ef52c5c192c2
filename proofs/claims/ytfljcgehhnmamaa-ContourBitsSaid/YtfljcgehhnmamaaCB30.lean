/- Joined texts: RefP Set9. -/
import Derived.Test.YtfljcgehhnmamaaCB4
/- Layer 8, plain: the faces of the reference's cells. No program. -/
namespace Go.Proofs.Ytfljcgehhnmamaa
theorem ax3 {a : Nat} (ha : a < 3) : a = 0 ∨ a = 1 ∨ a = 2 := by omega
theorem faceV_lt {a : Nat} (ha : a < 3) (pos : Bool) {k : Nat} (hk : k < 4) : faceV a pos k < 8 := by
  have hc : k = 0 ∨ k = 1 ∨ k = 2 ∨ k = 3 := by omega
  rcases ax3 ha with rfl | rfl | rfl <;> rcases hc with rfl | rfl | rfl | rfl <;> cases pos <;> decide
theorem faceV_b {a : Nat} (ha : a < 3) (pos : Bool) {k : Nat} (hk : k < 4) (h : k % 2 = 0) : faceV a pos k + 2 ^ ((a + 1) % 3) < 8 := by
  have hc : k = 0 ∨ k = 2 := by omega
  rcases ax3 ha with rfl | rfl | rfl <;> rcases hc with rfl | rfl <;> cases pos <;> decide
theorem faceV_d {a : Nat} (ha : a < 3) (pos : Bool) {k : Nat} (hk : k < 4) (h : k / 2 = 0) : faceV a pos k + 2 ^ ((a + 2) % 3) < 8 := by
  have hc : k = 0 ∨ k = 1 := by omega
  rcases ax3 ha with rfl | rfl | rfl <;> rcases hc with rfl | rfl <;> cases pos <;> decide
theorem edgeE_lt {v a : Nat} (hv : v < 8) (ha : a < 3) : edgeE v a < 24 := by
  unfold edgeE
  omega
def xb1 (ins : Nat → Bool) (a : Nat) (pos : Bool) (k : Nat) : Bool := decide (k % 2 = 0) && (ins (faceV a pos k) != ins (faceV a pos k + 2 ^ ((a + 1) % 3)))
def xb2 (ins : Nat → Bool) (a : Nat) (pos : Bool) (k : Nat) : Bool := decide (k / 2 = 0) && (ins (faceV a pos k) != ins (faceV a pos k + 2 ^ ((a + 2) % 3)))
theorem crossE_succ (ins : Nat → Bool) (a : Nat) (pos : Bool) (k : Nat) : crossE ins a pos (k + 1) = crossE ins a pos k ++ (if xb1 ins a pos k then [edgeE (faceV a pos k) ((a + 1) % 3)] else []) ++ (if xb2 ins a pos k then [edgeE (faceV a pos k) ((a + 2) % 3)] else []) := by
  unfold crossE
  rw [List.range_succ, List.flatMap_append, List.flatMap_singleton, List.append_assoc]
  congr 1
  unfold crossE1 xb1 xb2
  simp only [Bool.and_eq_true, decide_eq_true_eq, bne_iff_ne, ne_eq]
theorem crossE_few (ins : Nat → Bool) (a : Nat) (pos : Bool) (k : Nat) : (crossE ins a pos k).length ≤ 2 * k := by
  induction k with
  | zero => simp [crossE]
  | succ k ih =>
    rw [crossE_succ, List.length_append, List.length_append]
    have h1 : (if xb1 ins a pos k = true then [edgeE (faceV a pos k) ((a + 1) % 3)] else []).length ≤ 1 := by split <;> simp
    have h2 : (if xb2 ins a pos k = true then [edgeE (faceV a pos k) ((a + 2) % 3)] else []).length ≤ 1 := by split <;> simp
    omega
theorem fourE_succ (ins : Nat → Bool) (a : Nat) (pos : Bool) (k : Nat) : fourE ins a pos (k + 1) = fourE ins a pos k ++ if ins (faceV a pos k) then [joinE (edgeE (faceV a pos k) ((a + 1) % 3)) (edgeE (faceV a pos k) ((a + 2) % 3)) (faceV a pos k) a pos] else [] := by
  unfold fourE
  rw [List.range_succ, List.filter_append, List.map_append]
  congr 1
  cases h : ins (faceV a pos k) <;> simp [h]
/-- What a face may show: no crossing, two of them, four. -/
theorem crossE_cases (ins : Nat → Bool) {a : Nat} (ha : a < 3) (pos : Bool) : crossE ins a pos 4 = [] ∨ (∃ p q v : Nat, crossE ins a pos 4 = [p, q] ∧ p < 24 ∧ q < 24 ∧ v < 8 ∧ lastE ins a pos 4 = (v : Int)) ∨ ∃ p q r s, crossE ins a pos 4 = [p, q, r, s] := by
  have hl : lastE ins a pos 4 = if ins (faceV a pos 3) then ((faceV a pos 3 : Nat) : Int) else if ins (faceV a pos 2) then ((faceV a pos 2 : Nat) : Int) else if ins (faceV a pos 1) then ((faceV a pos 1 : Nat) : Int) else if ins (faceV a pos 0) then ((faceV a pos 0 : Nat) : Int) else (-1 : Int) := rfl
  have h0 : faceV a pos 0 + 2 ^ ((a + 1) % 3) = faceV a pos 1 := by rcases ax3 ha with rfl | rfl | rfl <;> cases pos <;> rfl
  have h1 : faceV a pos 0 + 2 ^ ((a + 2) % 3) = faceV a pos 2 := by rcases ax3 ha with rfl | rfl | rfl <;> cases pos <;> rfl
  have h2 : faceV a pos 1 + 2 ^ ((a + 2) % 3) = faceV a pos 3 := by rcases ax3 ha with rfl | rfl | rfl <;> cases pos <;> rfl
  have h3 : faceV a pos 2 + 2 ^ ((a + 1) % 3) = faceV a pos 3 := by rcases ax3 ha with rfl | rfl | rfl <;> cases pos <;> rfl
  have he : ∀ k b, k < 4 → b < 3 → edgeE (faceV a pos k) b < 24 := fun k b hk hb => edgeE_lt (faceV_lt ha pos hk) hb
  have e : crossE ins a pos 4 = [] ++ (if ins (faceV a pos 0) != ins (faceV a pos 1) then [edgeE (faceV a pos 0) ((a + 1) % 3)] else []) ++ (if ins (faceV a pos 0) != ins (faceV a pos 2) then [edgeE (faceV a pos 0) ((a + 2) % 3)] else []) ++ [] ++ (if ins (faceV a pos 1) != ins (faceV a pos 3) then [edgeE (faceV a pos 1) ((a + 2) % 3)] else []) ++ (if ins (faceV a pos 2) != ins (faceV a pos 3) then [edgeE (faceV a pos 2) ((a + 1) % 3)] else []) := by
    rw [crossE_succ, crossE_succ, crossE_succ, crossE_succ]
    unfold xb1 xb2
    rw [h0, h1, h2, h3]
    simp [crossE]
  have g0 := faceV_lt ha pos (k := 0) (by omega)
  have g1 := faceV_lt ha pos (k := 1) (by omega)
  have g2 := faceV_lt ha pos (k := 2) (by omega)
  have g3 := faceV_lt ha pos (k := 3) (by omega)
  have m1 := he 0 ((a + 1) % 3) (by omega) (by omega)
  have m2 := he 0 ((a + 2) % 3) (by omega) (by omega)
  have m3 := he 1 ((a + 2) % 3) (by omega) (by omega)
  have m4 := he 2 ((a + 1) % 3) (by omega) (by omega)
  rw [e, hl]
  generalize edgeE (faceV a pos 0) ((a + 1) % 3) = p1 at *
  generalize edgeE (faceV a pos 0) ((a + 2) % 3) = p2 at *
  generalize edgeE (faceV a pos 1) ((a + 2) % 3) = p3 at *
  generalize edgeE (faceV a pos 2) ((a + 1) % 3) = p4 at *
  cases ins (faceV a pos 0) <;> cases ins (faceV a pos 1) <;> cases ins (faceV a pos 2) <;> cases ins (faceV a pos 3)
  all_goals
    first
    | exact .inl rfl
    | exact .inr (.inr ⟨_, _, _, _, rfl⟩)
    | exact .inr (.inl ⟨_, _, _, rfl, by assumption, by assumption, by assumption, rfl⟩)
theorem joinE_lt {p q : Nat} (hp : p < 24) (hq : q < 24) (v a : Nat) (pos : Bool) : (joinE p q v a pos).1 < 24 ∧ (joinE p q v a pos).2 < 24 := by
  unfold joinE
  split <;> exact ⟨by assumption, by assumption⟩
theorem faceE_lt (ins : Nat → Bool) {a : Nat} (ha : a < 3) (pos : Bool) : ∀ x ∈ faceE ins a pos, x.1 < 24 ∧ x.2 < 24 := by
  intro x hx
  unfold faceE at hx
  rcases crossE_cases ins ha pos with h | ⟨p, q, v, h, hp, hq, hv, hl⟩ | ⟨p, q, r, s, h⟩
  · rw [h] at hx; cases hx
  · rw [h] at hx
    simp only [List.mem_singleton] at hx
    subst hx
    exact joinE_lt hp hq _ _ _
  · rw [h] at hx
    obtain ⟨i, hi, rfl⟩ := List.mem_map.1 hx
    have hi4 : i < 4 := List.mem_range.1 (List.mem_filter.1 hi).1
    exact joinE_lt (edgeE_lt (faceV_lt ha pos hi4) (by omega)) (edgeE_lt (faceV_lt ha pos hi4) (by omega)) _ _ _
end Go.Proofs.Ytfljcgehhnmamaa
/- Nine cells at once. No dump is named. -/
namespace Go.Proofs.Ytfljcgehhnmamaa
open Go.RowKit
theorem Blk.set9 {w : World} {g : Nat} {t : TypeId} {a0 a1 a2 a3 a4 a5 a6 a7 a8 : Value} (h : Blk w g t #[a0, a1, a2, a3, a4, a5, a6, a7, a8]) (x0 x1 x2 x3 x4 x5 x6 x7 x8 : Value) : Blk (((((((((w.setCell ⟨g, 0, none⟩ x0).setCell ⟨g, 1, none⟩ x1).setCell ⟨g, 2, none⟩ x2).setCell ⟨g, 3, none⟩ x3).setCell ⟨g, 4, none⟩ x4).setCell ⟨g, 5, none⟩ x5).setCell ⟨g, 6, none⟩ x6).setCell ⟨g, 7, none⟩ x7).setCell ⟨g, 8, none⟩ x8) g t #[x0, x1, x2, x3, x4, x5, x6, x7, x8] := by
  have := (((((((((h.set_ 0 x0).set_ 1 x1).set_ 2 x2).set_ 3 x3).set_ 4 x4).set_ 5 x5).set_ 6 x6).set_ 7 x7).set_ 8 x8)
  simp only [List.setIfInBounds_toArray, List.set_cons_succ, List.set_cons_zero] at this
  exact this
theorem below_set9 {w0 w : World} {n g : Nat} (hb : Below n w0 w) (hg : n ≤ g) (x0 x1 x2 x3 x4 x5 x6 x7 x8 : Value) : Below n w0 (((((((((w.setCell ⟨g, 0, none⟩ x0).setCell ⟨g, 1, none⟩ x1).setCell ⟨g, 2, none⟩ x2).setCell ⟨g, 3, none⟩ x3).setCell ⟨g, 4, none⟩ x4).setCell ⟨g, 5, none⟩ x5).setCell ⟨g, 6, none⟩ x6).setCell ⟨g, 7, none⟩ x7).setCell ⟨g, 8, none⟩ x8) := ((((((((hb.setCell (p := ⟨g, 0, none⟩) hg x0).setCell (p := ⟨g, 1, none⟩) hg x1).setCell (p := ⟨g, 2, none⟩) hg x2).setCell (p := ⟨g, 3, none⟩) hg x3).setCell (p := ⟨g, 4, none⟩) hg x4).setCell (p := ⟨g, 5, none⟩) hg x5).setCell (p := ⟨g, 6, none⟩) hg x6).setCell (p := ⟨g, 7, none⟩) hg x7).setCell (p := ⟨g, 8, none⟩) hg x8
end Go.Proofs.Ytfljcgehhnmamaa
