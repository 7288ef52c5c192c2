/- Layer 8, plain: the turned field and its surface. No program. -/
import Derived.Test.YtfljcgehhnmamaaCSurfP
import Derived.Test.YtfljcgehhnmamaaCTurnP
import Derived.Test.YtfljcgehhnmamaaCFieldK
namespace Go.Proofs.Ytfljcgehhnmamaa
open Go.RowKit
/-- Where vertex k goes: x, y, z to y, z, x. -/
def vtxT (s k : Nat) : Nat := (k % s * s + k / s / s) * s + k / s % s
/-- The turned field, once its first k vertices are laid. -/
def turnF (F : List Bool) (s : Nat) : Nat → List Bool
  | 0 => List.replicate F.length false
  | k + 1 => (turnF F s k).set (vtxT s k) (F.getD k false)
theorem turnF_length (F : List Bool) (s k : Nat) : (turnF F s k).length = F.length := by
  induction k with
  | zero => simp [turnF]
  | succ k ih => rw [turnF, List.length_set, ih]
theorem three_lt {s x y z : Nat} (hx : x < s) (hy : y < s) (hz : z < s) : (z * s + y) * s + x < s * s * s := by
  have h1 : z * s + s ≤ s * s := by have := Nat.mul_le_mul_right s (show z + 1 ≤ s by omega); rw [Nat.succ_mul] at this; exact this
  have h2 : (z * s + y) * s + s ≤ s * s * s := by have := Nat.mul_le_mul_right s (show z * s + y + 1 ≤ s * s by omega); rw [Nat.succ_mul] at this; exact this
  omega
theorem three_of {s k : Nat} (hk : k < s * s * s) : k % s < s ∧ k / s % s < s ∧ k / s / s < s ∧ k = (k / s / s * s + k / s % s) * s + k % s := by
  have hs : 0 < s := by
    rcases Nat.eq_zero_or_pos s with rfl | h
    · simp at hk
    · exact h
  refine ⟨Nat.mod_lt _ hs, Nat.mod_lt _ hs, ?_, ?_⟩
  · exact (Nat.div_lt_iff_lt_mul hs).2 ((Nat.div_lt_iff_lt_mul hs).2 (by rw [show s * s * s = s * s * s from rfl] at hk; exact hk))
  · rw [Nat.div_add_mod' (k / s) s, Nat.div_add_mod' k s]
theorem vtxT_at {s x y z : Nat} (hx : x < s) (hy : y < s) : vtxT s ((z * s + y) * s + x) = (x * s + z) * s + y := by
  obtain ⟨e1, e2, e3⟩ := cell_no (z := z) hx hy
  unfold vtxT
  rw [e1, e2, e3]
theorem vtxT_lt {s k : Nat} (hk : k < s * s * s) : vtxT s k < s * s * s := by
  obtain ⟨h1, h2, h3, _⟩ := three_of hk
  exact three_lt h2 h3 h1
theorem vtxT_inj {s j k : Nat} (hj : j < s * s * s) (hk : k < s * s * s) (e : vtxT s j = vtxT s k) : j = k := by
  obtain ⟨a1, a2, a3, a4⟩ := three_of hj
  obtain ⟨b1, b2, b3, b4⟩ := three_of hk
  unfold vtxT at e
  obtain ⟨c1, c2, c3⟩ := cell_no (x := j / s % s) (y := j / s / s) (z := j % s) a2 a3
  obtain ⟨d1, d2, d3⟩ := cell_no (x := k / s % s) (y := k / s / s) (z := k % s) b2 b3
  rw [e] at c1 c2 c3
  rw [a4, b4, ← c1, ← c2, ← c3, d1, d2, d3]
theorem turnF_get {F : List Bool} {s : Nat} (hF : F.length = s * s * s) : ∀ k, k ≤ F.length → ∀ j, j < F.length → (turnF F s k).getD (vtxT s j) false = if j < k then F.getD j false else false
  | 0, _, j, hj => by
    rw [if_neg (by omega), turnF, List.getD_eq_getElem?_getD, List.getElem?_replicate]
    split <;> rfl
  | k + 1, hk, j, hj => by
    have ih := turnF_get hF k (by omega) j hj
    rw [turnF, List.getD_eq_getElem?_getD]
    by_cases e : j = k
    · subst e
      rw [List.getElem?_set_self (by rw [turnF_length]; rw [hF]; exact vtxT_lt (by omega)), if_pos (by omega)]
      rfl
    · rw [List.getElem?_set_ne (fun h => e (vtxT_inj (by omega) (by omega) h.symm)), ← List.getD_eq_getElem?_getD, ih]
      by_cases h : j < k
      · rw [if_pos h, if_pos (by omega)]
      · rw [if_neg h, if_neg (by omega)]
theorem comp_turn {s k : Nat} (hk : k < s * s * s) : compK s (vtxT s k) 0 = compK s k 1 ∧ compK s (vtxT s k) 1 = compK s k 2 ∧ compK s (vtxT s k) 2 = compK s k 0 := by
  obtain ⟨a1, a2, a3, a4⟩ := three_of hk
  obtain ⟨c1, c2, c3⟩ := cell_no (x := k / s % s) (y := k / s / s) (z := k % s) a2 a3
  exact ⟨c1, c2, c3⟩
theorem okF_off {F : List Bool} {n m i : Nat} (h : okF F n m = true) : okF (F.set i false) n m = true := by
  unfold okF at h ⊢
  refine List.all_eq_true.2 fun k hk => ?_
  have h0 := List.all_eq_true.1 h k hk
  by_cases hik : i = k
  · subst hik
    refine okK_out ?_
    rw [List.getD_eq_getElem?_getD, List.getElem?_set]
    split
    · split <;> rfl
    · contradiction
  · unfold okK at h0 ⊢
    rw [List.getD_eq_getElem?_getD, List.getElem?_set_ne hik, ← List.getD_eq_getElem?_getD]
    exact h0
theorem okK_get {F : List Bool} {n k : Nat} (h : okK F n k = true) (hF : F.getD k false = true) : ∀ j, j < 3 → badC n (compK (n + 1) k j) = false := by
  intro j hj
  unfold okK at h
  rw [hF] at h
  simp only [Bool.not_true, Bool.false_or, List.all_eq_true, List.mem_range, Bool.not_eq_true'] at h
  exact h j hj
theorem okF_get {F : List Bool} {n m k : Nat} (h : okF F n m = true) (hk : k < m) (hF : F.getD k false = true) : ∀ j, j < 3 → badC n (compK (n + 1) k j) = false :=
  okK_get (List.all_eq_true.1 h k (List.mem_range.2 hk)) hF
theorem turnF_ok {F : List Bool} {n : Nat} (hF : F.length = (n + 1) * (n + 1) * (n + 1)) (h : okF F n F.length = true) : ∀ k, k ≤ F.length → okF (turnF F (n + 1) k) n F.length = true
  | 0, _ => okF_none _ _ _
  | k + 1, hk => by
    have ih := turnF_ok hF h k (by omega)
    rw [turnF]
    cases hb : F.getD k false with
    | false => exact okF_off ih
    | true =>
      have hg := okF_get h (by omega) hb
      obtain ⟨c0, c1, c2⟩ := comp_turn (s := n + 1) (k := k) (by omega)
      refine okF_set ih fun j hj => ?_
      have hc : j = 0 ∨ j = 1 ∨ j = 2 := by omega
      rcases hc with rfl | rfl | rfl
      · rw [c0]; exact hg 1 (by omega)
      · rw [c1]; exact hg 2 (by omega)
      · rw [c2]; exact hg 0 (by omega)
/-- The whole turned field. -/
def turnG (F : List Bool) (s : Nat) : List Bool := turnF F s F.length
theorem turnG_get {F : List Bool} {s x y z : Nat} (hF : F.length = s * s * s) (hx : x < s) (hy : y < s) (hz : z < s) : (turnG F s).getD ((x * s + z) * s + y) false = F.getD ((z * s + y) * s + x) false := by
  have h := three_lt hx hy hz
  have := turnF_get hF F.length (Nat.le_refl _) ((z * s + y) * s + x) (by omega)
  rw [vtxT_at hx hy, if_pos (by omega)] at this
  exact this
theorem valid_parts {l : Nat} {F : List Bool} (h : validF l F = true) : F.length = (2 ^ l + 1) * (2 ^ l + 1) * (2 ^ l + 1) ∧ okF F (2 ^ l) F.length = true := by
  unfold validF at h
  simp only [Bool.and_eq_true, decide_eq_true_eq, Int.toNat_natCast] at h
  exact ⟨h.1.2, h.2⟩
theorem valid_of {l : Nat} {F : List Bool} (h1 : 1 ≤ l) (h3 : l ≤ 3) (hl : F.length = (2 ^ l + 1) * (2 ^ l + 1) * (2 ^ l + 1)) (h : okF F (2 ^ l) F.length = true) : validF l F = true := by
  unfold validF
  have hL : (1 : Int) ≤ (l : Int) ∧ (l : Int) ≤ 8 := by omega
  rw [decide_eq_true hL, Int.toNat_natCast, decide_eq_true hl, h]
  rfl
theorem turnG_valid {l : Nat} {F : List Bool} (h1 : 1 ≤ l) (h3 : l ≤ 3) (h : validF l F = true) : validF l (turnG F (2 ^ l + 1)) = true := by
  obtain ⟨hl, hok⟩ := valid_parts h
  refine valid_of h1 h3 ?_ ?_
  · rw [turnG, turnF_length, hl]
  · rw [show (turnG F (2 ^ l + 1)).length = F.length from turnF_length _ _ _]
    exact turnF_ok hl hok _ (Nat.le_refl _)
/-! Its cells. -/
theorem insL_bits (F : List Bool) (n k v : Nat) (hv : v < 8) : insL (bitsF F n k) v = insF F (n + 1) (k % n) (k / n % n) (k / n / n) v := by
  unfold insL bitsF
  rw [List.getD_eq_getElem?_getD, List.getElem?_map, List.getElem?_range hv]
  rfl
theorem bits_turn {F : List Bool} {n k : Nat} (hF : F.length = (n + 1) * (n + 1) * (n + 1)) (hk : k < n * n * n) : bitsF (turnG F (n + 1)) n (vtxT n k) = turnL (bitsF F n k) := by
  obtain ⟨a1, a2, a3, a4⟩ := three_of hk
  obtain ⟨c1, c2, c3⟩ := cell_no (x := k / n % n) (y := k / n / n) (z := k % n) a2 a3
  have key : ∀ a b c : Nat, a ≤ 1 → b ≤ 1 → c ≤ 1 → (turnG F (n + 1)).getD (((k % n + a) * (n + 1) + (k / n / n + c)) * (n + 1) + (k / n % n + b)) false = F.getD (((k / n / n + c) * (n + 1) + (k / n % n + b)) * (n + 1) + (k % n + a)) false := fun a b c ha hb hc => turnG_get hF (by omega) (by omega) (by omega)
  unfold turnL
  rw [insL_bits _ _ _ _ (by omega), insL_bits _ _ _ _ (by omega), insL_bits _ _ _ _ (by omega), insL_bits _ _ _ _ (by omega), insL_bits _ _ _ _ (by omega), insL_bits _ _ _ _ (by omega), insL_bits _ _ _ _ (by omega), insL_bits _ _ _ _ (by omega)]
  unfold bitsF vtxT
  rw [c1, c2, c3]
  simp only [show List.range 8 = [0, 1, 2, 3, 4, 5, 6, 7] from rfl, List.map_cons, List.map_nil, insF, vtx, Nat.reduceDiv, Nat.reduceMod, Nat.add_assoc]
  simp only [← Nat.add_assoc]
  congr 1
  · exact key 0 0 0 (by omega) (by omega) (by omega)
  congr 1
  · exact key 0 1 0 (by omega) (by omega) (by omega)
  congr 1
  · exact key 0 0 1 (by omega) (by omega) (by omega)
  congr 1
  · exact key 0 1 1 (by omega) (by omega) (by omega)
  congr 1
  · exact key 1 0 0 (by omega) (by omega) (by omega)
  congr 1
  · exact key 1 1 0 (by omega) (by omega) (by omega)
  congr 1
  · exact key 1 0 1 (by omega) (by omega) (by omega)
  congr 1
  exact key 1 1 1 (by omega) (by omega) (by omega)
theorem turn_sh (v : Pt) (t : Tri) : turnT (shT v t) = shT (turnP v) (turnT t) := rfl
theorem turnT_cyc (t : Tri) : turnT (cycT8 t) = cycT8 (turnT t) := rfl
theorem turnP_inj {p q : Pt} (h : turnP p = turnP q) : p = q := by
  obtain ⟨a, b, c⟩ := p
  obtain ⟨d, e, f⟩ := q
  simp only [turnP, Prod.mk.injEq] at h ⊢
  omega
theorem distT8_turn {t : Tri} (h : distT8 t) : distT8 (turnT t) := ⟨fun e => h.1 (turnP_inj e), fun e => h.2.1 (turnP_inj e), fun e => h.2.2 (turnP_inj e)⟩
theorem shT_cyc (v : Pt) (t : Tri) : shT v (cycT8 t) = cycT8 (shT v t) := rfl
theorem ltP_sh (v p q : Pt) : ltP (addP v p) (addP v q) = ltP p q := by
  obtain ⟨a, b, c⟩ := v
  obtain ⟨d, e, f⟩ := p
  obtain ⟨g, h, i⟩ := q
  simp only [ltP, addP]
  rw [Bool.eq_iff_iff]
  simp
theorem rotT_sh (v : Pt) (t : Tri) : rotT (shT v t) = shT v (rotT t) := by
  obtain ⟨a, b, c⟩ := t
  unfold rotT shT
  simp only [ltP_sh]
  split <;> split <;> rfl
theorem SameS.sh {s t : List Tri} (h : SameS s t) (v : Pt) : SameS (s.map (shT v)) (t.map (shT v)) := by
  unfold SameS at *
  rw [List.map_map, List.map_map]
  have e : ∀ u : List Tri, u.map (rotT ∘ shT v) = (u.map rotT).map (shT v) := fun u => by
    rw [List.map_map]
    exact List.map_congr_left fun t _ => rotT_sh v t
  rw [e, e]
  exact h.map _
theorem cell_turned {F : List Bool} {n k : Nat} {h : Int} (hh : SideH h) (hF : F.length = (n + 1) * (n + 1) * (n + 1)) (hk : k < n * n * n) :
    SameS ((cellTs (bitsF F n k) (cellAt n k) h).map turnT) (cellTs (bitsF (turnG F (n + 1)) n (vtxT n k)) (cellAt n (vtxT n k)) h) := by
  obtain ⟨a1, a2, a3, a4⟩ := three_of hk
  obtain ⟨c1, c2, c3⟩ := cell_no (x := k / n % n) (y := k / n / n) (z := k % n) a2 a3
  rw [bits_turn hF hk, cellTs_shift (bitsF_length F n k), cellTs_shift (l := turnL _) rfl]
  have e : cellAt n (vtxT n k) = turnP (cellAt n k) := by
    unfold cellAt vtxT turnP
    rw [c1, c2, c3]
  rw [e]
  obtain ⟨c, hc⟩ : ∃ c, c = cellAt n k := ⟨_, rfl⟩
  rw [← hc]
  have hp : SameS (cellTs (turnL (bitsF F n k)) (0, 0, 0) h) ((cellTs (bitsF F n k) (0, 0, 0) h).map turnT) := turn_cell h hh (bitsF_length F n k)
  have e2 : ((cellTs (bitsF F n k) (0, 0, 0) h).map (shT (c.1 * h, c.2.1 * h, c.2.2 * h))).map turnT = ((cellTs (bitsF F n k) (0, 0, 0) h).map turnT).map (shT ((turnP c).1 * h, (turnP c).2.1 * h, (turnP c).2.2 * h)) := by
    rw [List.map_map, List.map_map]
    rfl
  rw [e2]
  exact hp.symm.sh _
theorem vtxT_perm (n : Nat) : ((List.range (n * n * n)).map (vtxT n)).Perm (List.range (n * n * n)) := by
  refine (List.perm_ext_iff_of_nodup ?_ List.nodup_range).2 fun j => ?_
  · refine List.pairwise_map.2 (List.pairwise_iff_getElem.2 fun i j hi hj hij e => ?_)
    simp only [List.length_range, List.getElem_range] at hi hj e
    have := vtxT_inj hi hj e
    omega
  · rw [List.mem_map]
    constructor
    · rintro ⟨k, hk, rfl⟩
      exact List.mem_range.2 (vtxT_lt (List.mem_range.1 hk))
    · intro hj
      obtain ⟨a1, a2, a3, a4⟩ := three_of (List.mem_range.1 hj)
      refine ⟨(j / n % n * n + j % n) * n + j / n / n, List.mem_range.2 (three_lt a3 a1 a2), ?_⟩
      rw [vtxT_at a3 a1, ← a4]
/-- The law: the turned field's surface is the turned surface. -/
theorem turned_law {l : Nat} {F : List Bool} (h1 : 1 ≤ l) (h3 : l ≤ 3) (hv : validF l F = true) :
    canonO ((contourP l F).map turnT) = canonO (contourP l (turnG F (2 ^ l + 1))) := by
  have hh : SideH ((2 ^ (21 - l) : Nat) : Int) := sideE h1 h3
  rw [canonO_T, canonO_T, contour_lvl hv, contour_lvl (turnG_valid h1 h3 hv)]
  refine SameS.canon ?_
  have hl := (valid_parts hv).1
  obtain ⟨h, hhe⟩ : ∃ h : Int, h = ((2 ^ (21 - l) : Nat) : Int) := ⟨_, rfl⟩
  rw [← hhe] at hh ⊢
  obtain ⟨n, hn⟩ : ∃ n, n = 2 ^ l := ⟨_, rfl⟩
  rw [← hn] at hl ⊢
  refine (same_map turnT_cyc fun t ht => distT8_turn (dist_ctr hh F n _ t ht)).trans (SameS.trans ?_ (same_canon (dist_ctr hh _ n _)).symm)
  unfold ctrL
  rw [List.map_flatMap]
  exact SameS.renum (vtxT n) (vtxT_perm n) fun k hk => cell_turned hh hl hk
end Go.Proofs.Ytfljcgehhnmamaa
