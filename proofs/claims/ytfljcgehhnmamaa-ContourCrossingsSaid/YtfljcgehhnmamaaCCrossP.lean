/- Layer 8, plain: where the corners of a surface lie: on the crossings, or strictly inside of cells. No program. -/
import Derived.Test.YtfljcgehhnmamaaCB24
import Derived.Test.YtfljcgehhnmamaaCPlaceP
namespace Go.Proofs.Ytfljcgehhnmamaa
open Go.RowKit
/-- The edges of a cell: the lower vertex and the axis. -/
def edgeL : List (Nat × Nat) := [(0, 0), (2, 0), (4, 0), (6, 0), (0, 1), (1, 1), (4, 1), (5, 1), (0, 2), (1, 2), (2, 2), (3, 2)]
def xEdges (l : List Bool) : List (Nat × Nat) := edgeL.filter fun e => insL l e.1 != insL l (e.1 + 2 ^ e.2)
def xPt (h : Int) (e : Nat × Nat) : Pt := pointP (0, 0, 0) h (placeE (e.1 + 8 * e.2))
def inB (h : Int) (p : Pt) : Bool := decide (0 < p.1) && decide (p.1 < h) && (decide (0 < p.2.1) && decide (p.2.1 < h)) && (decide (0 < p.2.2) && decide (p.2.2 < h))
def cOk (h : Int) (l : List Bool) (p : Pt) : Bool := inB h p || (xEdges l).any fun e => decide (p = xPt h e)
def corB (t : Tri) (p : Pt) : Bool := decide (p = t.1) || (decide (p = t.2.1) || decide (p = t.2.2))
def corChk (h : Int) (l : List Bool) : Bool :=
  ((cellTs l (0, 0, 0) h).all fun t => cOk h l t.1 && (cOk h l t.2.1 && cOk h l t.2.2)) && ((xEdges l).all fun e => (cellTs l (0, 0, 0) h).any fun t => corB t (xPt h e))
set_option maxRecDepth 100000 in
theorem cor_all3 : ((allL 8).all (corChk 262144)) = true := by decide +kernel
set_option maxRecDepth 100000 in
theorem cor_all2 : ((allL 8).all (corChk 524288)) = true := by decide +kernel
set_option maxRecDepth 100000 in
theorem cor_all1 : ((allL 8).all (corChk 1048576)) = true := by decide +kernel
/-- p is a corner of t. -/
def CorOf (t : Tri) (p : Pt) : Prop := p = t.1 ∨ p = t.2.1 ∨ p = t.2.2
theorem corB_iff {t : Tri} {p : Pt} : corB t p = true ↔ CorOf t p := by
  unfold corB CorOf
  simp only [Bool.or_eq_true, decide_eq_true_eq]
theorem CorOf.rot {t : Tri} {p : Pt} : CorOf (rotT t) p ↔ CorOf t p := by
  rcases rotT_cases t with e | e | e <;> rw [e]
  · unfold CorOf cycT8
    constructor
    · rintro (h | h | h)
      · exact .inr (.inl h)
      · exact .inr (.inr h)
      · exact .inl h
    · rintro (h | h | h)
      · exact .inr (.inr h)
      · exact .inl h
      · exact .inr (.inl h)
  · unfold CorOf cycT8
    constructor
    · rintro (h | h | h)
      · exact .inr (.inr h)
      · exact .inl h
      · exact .inr (.inl h)
    · rintro (h | h | h)
      · exact .inr (.inl h)
      · exact .inr (.inr h)
      · exact .inl h
def InB (h : Int) (p : Pt) : Prop := (0 < p.1 ∧ p.1 < h) ∧ (0 < p.2.1 ∧ p.2.1 < h) ∧ (0 < p.2.2 ∧ p.2.2 < h)
theorem inB_iff {h : Int} {p : Pt} : inB h p = true ↔ InB h p := by
  unfold inB InB
  simp only [Bool.and_eq_true, decide_eq_true_eq]
  constructor
  · rintro ⟨⟨⟨a, b⟩, c, d⟩, e, f⟩; exact ⟨⟨a, b⟩, ⟨c, d⟩, e, f⟩
  · rintro ⟨⟨a, b⟩, ⟨c, d⟩, e, f⟩; exact ⟨⟨⟨a, b⟩, c, d⟩, e, f⟩
theorem cor_chk {h : Int} (hh : SideH h) {l : List Bool} (hl : l.length = 8) : corChk h l = true := by
  have hm := mem_allL 8 l hl
  rcases hh with rfl | rfl | rfl
  · exact List.all_eq_true.1 cor_all3 l hm
  · exact List.all_eq_true.1 cor_all2 l hm
  · exact List.all_eq_true.1 cor_all1 l hm
theorem cOk_iff {h : Int} {l : List Bool} {p : Pt} : cOk h l p = true ↔ InB h p ∨ ∃ e ∈ xEdges l, p = xPt h e := by
  unfold cOk
  rw [Bool.or_eq_true, inB_iff, List.any_eq_true]
  simp only [decide_eq_true_eq]
theorem cor_first {h : Int} (hh : SideH h) {l : List Bool} (hl : l.length = 8) {t : Tri} (ht : t ∈ cellTs l (0, 0, 0) h) {p : Pt} (hp : CorOf t p) : InB h p ∨ ∃ e ∈ xEdges l, p = xPt h e := by
  have hc := cor_chk hh hl
  unfold corChk at hc
  rw [Bool.and_eq_true] at hc
  have := List.all_eq_true.1 hc.1 t ht
  simp only [Bool.and_eq_true] at this
  refine cOk_iff.1 ?_
  rcases hp with rfl | rfl | rfl
  · exact this.1
  · exact this.2.1
  · exact this.2.2
theorem cor_has {h : Int} (hh : SideH h) {l : List Bool} (hl : l.length = 8) {e : Nat × Nat} (he : e ∈ xEdges l) : ∃ t ∈ cellTs l (0, 0, 0) h, CorOf t (xPt h e) := by
  have hc := cor_chk hh hl
  unfold corChk at hc
  rw [Bool.and_eq_true] at hc
  have := List.all_eq_true.1 hc.2 e he
  obtain ⟨t, ht, h1⟩ := List.any_eq_true.1 this
  exact ⟨t, ht, corB_iff.1 h1⟩
theorem xPt_bd {h : Int} (hh : SideH h) {e : Nat × Nat} (he : e ∈ edgeL) : (0 ≤ (xPt h e).1 ∧ (xPt h e).1 ≤ h) ∧ (0 ≤ (xPt h e).2.1 ∧ (xPt h e).2.1 ≤ h) ∧ (0 ≤ (xPt h e).2.2 ∧ (xPt h e).2.2 ≤ h) := by
  have key : ∀ h : Int, SideH h → ∀ e ∈ edgeL, decide ((0 ≤ (xPt h e).1 ∧ (xPt h e).1 ≤ h) ∧ (0 ≤ (xPt h e).2.1 ∧ (xPt h e).2.1 ≤ h) ∧ (0 ≤ (xPt h e).2.2 ∧ (xPt h e).2.2 ≤ h)) = true := by
    intro h hh
    rw [← List.all_eq_true]
    rcases hh with rfl | rfl | rfl <;> decide +kernel
  exact of_decide_eq_true (key h hh e he)
/-- A cell's corners lie in it. -/
theorem cor_bd {h : Int} (hh : SideH h) {l : List Bool} (hl : l.length = 8) {t : Tri} (ht : t ∈ cellTs l (0, 0, 0) h) {p : Pt} (hp : CorOf t p) : (0 ≤ p.1 ∧ p.1 ≤ h) ∧ (0 ≤ p.2.1 ∧ p.2.1 ≤ h) ∧ (0 ≤ p.2.2 ∧ p.2.2 ≤ h) := by
  rcases cor_first hh hl ht hp with h1 | ⟨e, he, rfl⟩
  · obtain ⟨h1, h2, h3⟩ := h1
    omega
  · exact xPt_bd hh (List.mem_filter.1 he).1
theorem corOf_sh {v : Pt} {t : Tri} {p : Pt} (h : CorOf (shT v t) p) : ∃ q, p = addP v q ∧ CorOf t q := by
  rcases h with h | h | h
  · exact ⟨_, h, .inl rfl⟩
  · exact ⟨_, h, .inr (.inl rfl)⟩
  · exact ⟨_, h, .inr (.inr rfl)⟩
theorem CorOf.sh {v : Pt} {t : Tri} {p : Pt} (h : CorOf t p) : CorOf (shT v t) (addP v p) := by
  rcases h with rfl | rfl | rfl
  · exact .inl rfl
  · exact .inr (.inl rfl)
  · exact .inr (.inr rfl)
/-- A triangle of the surface, by its cell. -/
theorem ctr_mem {F : List Bool} {n : Nat} {h : Int} {t : Tri} (ht : t ∈ ctrL F n h (n * n * n)) : ∃ k u, k < n * n * n ∧ u ∈ cellTs (bitsF F n k) (0, 0, 0) h ∧ t = shT ((cellAt n k).1 * h, (cellAt n k).2.1 * h, (cellAt n k).2.2 * h) u := by
  obtain ⟨k, hk, hu⟩ := List.mem_flatMap.1 ht
  rw [cellTs_shift (bitsF_length F n k)] at hu
  obtain ⟨u, hu', rfl⟩ := List.mem_map.1 hu
  exact ⟨k, u, List.mem_range.1 hk, hu', rfl⟩
theorem mem_ctr {F : List Bool} {n k : Nat} {h : Int} {u : Tri} (hk : k < n * n * n) (hu : u ∈ cellTs (bitsF F n k) (0, 0, 0) h) : shT ((cellAt n k).1 * h, (cellAt n k).2.1 * h, (cellAt n k).2.2 * h) u ∈ ctrL F n h (n * n * n) := by
  refine List.mem_flatMap.2 ⟨k, List.mem_range.2 hk, ?_⟩
  rw [cellTs_shift (bitsF_length F n k)]
  exact List.mem_map.2 ⟨u, hu, rfl⟩
theorem canon_mem {s : List Tri} {t : Tri} : t ∈ canonT s ↔ ∃ u ∈ s, rotT u = t := by
  rw [(canonT_perm s).mem_iff, List.mem_map]
/-- A vertex of the grid. -/
def VF (F : List Bool) (n x y z : Nat) : Bool := F.getD ((z * (n + 1) + y) * (n + 1) + x) false
def axU (a : Nat) : Nat × Nat × Nat := if a = 0 then (1, 0, 0) else if a = 1 then (0, 1, 0) else (0, 0, 1)
/-- The middle of the edge from x, y, z along axis a. -/
def midG (h : Int) (x y z a : Nat) : Pt := ((x : Int) * h + ((axU a).1 : Nat) * (h / 2), (y : Int) * h + ((axU a).2.1 : Nat) * (h / 2), (z : Int) * h + ((axU a).2.2 : Nat) * (h / 2))
/-- The edge from x, y, z along axis a is crossed. -/
def XG (F : List Bool) (n x y z a : Nat) : Prop := VF F n x y z ≠ VF F n (x + (axU a).1) (y + (axU a).2.1) (z + (axU a).2.2)
theorem xPt_mid {h : Int} (hh : SideH h) {e : Nat × Nat} (he : e ∈ edgeL) : xPt h e = midG h (e.1 % 2) (e.1 / 2 % 2) (e.1 / 4 % 2) e.2 ∧ e.2 < 3 ∧ e.1 < 8 ∧ (e.1 + 2 ^ e.2) % 2 = e.1 % 2 + (axU e.2).1 ∧ (e.1 + 2 ^ e.2) / 2 % 2 = e.1 / 2 % 2 + (axU e.2).2.1 ∧ (e.1 + 2 ^ e.2) / 4 % 2 = e.1 / 4 % 2 + (axU e.2).2.2 ∧ e.1 + 2 ^ e.2 < 8 := by
  have key : ∀ h : Int, SideH h → ∀ e ∈ edgeL, decide (xPt h e = midG h (e.1 % 2) (e.1 / 2 % 2) (e.1 / 4 % 2) e.2 ∧ e.2 < 3 ∧ e.1 < 8 ∧ (e.1 + 2 ^ e.2) % 2 = e.1 % 2 + (axU e.2).1 ∧ (e.1 + 2 ^ e.2) / 2 % 2 = e.1 / 2 % 2 + (axU e.2).2.1 ∧ (e.1 + 2 ^ e.2) / 4 % 2 = e.1 / 4 % 2 + (axU e.2).2.2 ∧ e.1 + 2 ^ e.2 < 8) = true := by
    intro h hh
    rw [← List.all_eq_true]
    rcases hh with rfl | rfl | rfl <;> decide +kernel
  exact of_decide_eq_true (key h hh e he)
theorem insF_V (F : List Bool) (n x y z v : Nat) : insF F (n + 1) x y z v = VF F n (x + v % 2) (y + v / 2 % 2) (z + v / 4 % 2) := by
  unfold insF vtx VF
  simp only [Nat.add_assoc]
/-- A corner of the surface is a crossing, or strictly inside of a cell. -/
theorem ctr_cor {F : List Bool} {n : Nat} {h : Int} (hh : SideH h) {t : Tri} (ht : t ∈ ctrL F n h (n * n * n)) {p : Pt} (hp : CorOf t p) :
    (∃ c q : Pt, InB h q ∧ p = addP (c.1 * h, c.2.1 * h, c.2.2 * h) q) ∨ ∃ x y z a, a < 3 ∧ x + (axU a).1 ≤ n ∧ y + (axU a).2.1 ≤ n ∧ z + (axU a).2.2 ≤ n ∧ XG F n x y z a ∧ p = midG h x y z a := by
  obtain ⟨k, u, hk, hu, rfl⟩ := ctr_mem ht
  obtain ⟨q, rfl, hq⟩ := corOf_sh hp
  rcases cor_first hh (bitsF_length F n k) hu hq with h1 | ⟨e, he, rfl⟩
  · exact .inl ⟨_, q, h1, rfl⟩
  · obtain ⟨a1, a2, a3, a4⟩ := three_of hk
    have hem := (List.mem_filter.1 he).1
    have hed := (List.mem_filter.1 he).2
    obtain ⟨m1, m2, m3, m4, m5, m6, m7⟩ := xPt_mid hh hem
    have n0 : (e.1 + 2 ^ e.2) % 2 ≤ 1 := by omega
    have n1 : (e.1 + 2 ^ e.2) / 2 % 2 ≤ 1 := by omega
    have n2 : (e.1 + 2 ^ e.2) / 4 % 2 ≤ 1 := by omega
    refine .inr ⟨k % n + e.1 % 2, k / n % n + e.1 / 2 % 2, k / n / n + e.1 / 4 % 2, e.2, m2, by omega, by omega, by omega, ?_, ?_⟩
    · rw [insL_bits _ _ _ _ m3, insL_bits _ _ _ _ m7, insF_V, insF_V, m4, m5, m6] at hed
      simp only [bne_iff_ne, ne_eq, ← Nat.add_assoc] at hed
      exact hed
    · rw [m1]
      unfold midG addP cellAt
      push_cast
      simp only [Int.add_mul, Int.add_assoc]
/-- A crossed edge whose lower end is the first vertex of a cell gives a corner. -/
theorem cor_ctr {F : List Bool} {n : Nat} {h : Int} (hh : SideH h) {x y z a : Nat} (ha : a < 3) (hx : x < n) (hy : y < n) (hz : z < n) (hX : XG F n x y z a) : ∃ t ∈ ctrL F n h (n * n * n), CorOf t (midG h x y z a) := by
  obtain ⟨e1, e2, e3⟩ := cell_no (z := z) hx hy
  have hk := three_lt hx hy hz
  have he : (0, a) ∈ xEdges (bitsF F n ((z * n + y) * n + x)) := by
    refine List.mem_filter.2 ⟨?_, ?_⟩
    · have hc : a = 0 ∨ a = 1 ∨ a = 2 := by omega
      rcases hc with rfl | rfl | rfl <;> decide
    · have h8 : 0 + 2 ^ a < 8 := by
        have hc : a = 0 ∨ a = 1 ∨ a = 2 := by omega
        rcases hc with rfl | rfl | rfl <;> decide
      rw [insL_bits _ _ _ _ (by omega), insL_bits _ _ _ _ h8, e1, e2, e3, insF_V, insF_V]
      unfold XG at hX
      have hc : a = 0 ∨ a = 1 ∨ a = 2 := by omega
      rcases hc with rfl | rfl | rfl <;> (rw [bne_iff_ne]; exact hX)
  obtain ⟨u, hu, hcu⟩ := cor_has hh (bitsF_length F n _) he
  refine ⟨_, mem_ctr hk hu, ?_⟩
  have hm := (xPt_mid hh (List.mem_filter.1 he).1).1
  rw [hm] at hcu
  have := hcu.sh (v := ((cellAt n ((z * n + y) * n + x)).1 * h, (cellAt n ((z * n + y) * n + x)).2.1 * h, (cellAt n ((z * n + y) * n + x)).2.2 * h))
  have e : addP ((cellAt n ((z * n + y) * n + x)).1 * h, (cellAt n ((z * n + y) * n + x)).2.1 * h, (cellAt n ((z * n + y) * n + x)).2.2 * h) (midG h (0 % 2) (0 / 2 % 2) (0 / 4 % 2) a) = midG h x y z a := by
    unfold cellAt
    rw [e1, e2, e3]
    unfold midG addP
    simp
  rw [e] at this
  exact this
theorem ctr_bd {F : List Bool} {n : Nat} {h : Int} (hh : SideH h) {t : Tri} (ht : t ∈ ctrL F n h (n * n * n)) {p : Pt} (hp : CorOf t p) : (0 ≤ p.1 ∧ p.1 ≤ n * h) ∧ (0 ≤ p.2.1 ∧ p.2.1 ≤ n * h) ∧ (0 ≤ p.2.2 ∧ p.2.2 ≤ n * h) := by
  obtain ⟨k, u, hk, hu, rfl⟩ := ctr_mem ht
  obtain ⟨q, rfl, hq⟩ := corOf_sh hp
  have hb := cor_bd hh (bitsF_length F n k) hu hq
  obtain ⟨a1, a2, a3, a4⟩ := three_of hk
  have h0 : 0 < h := by rcases hh with rfl | rfl | rfl <;> decide
  have key : ∀ c : Nat, c < n → 0 ≤ (c : Int) * h ∧ (c : Int) * h + h ≤ n * h := fun c hc => by
    refine ⟨Int.mul_nonneg (by omega) (by omega), ?_⟩
    have := Int.mul_le_mul_of_nonneg_right (show (c : Int) + 1 ≤ n by omega) (Int.le_of_lt h0)
    rw [Int.add_mul, Int.one_mul] at this
    exact this
  have k1 := key _ a1
  have k2 := key _ a2
  have k3 := key _ a3
  unfold addP cellAt
  dsimp only
  omega
end Go.Proofs.Ytfljcgehhnmamaa
