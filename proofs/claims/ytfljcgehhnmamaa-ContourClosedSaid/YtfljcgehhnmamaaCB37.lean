/- Joined texts: FieldK TurnL PlaceP CrossP BdP. -/
import Derived.Deep.DeepCutAuto
import Derived.Test.YtfljcgehhnmamaaCB19
import Derived.Test.YtfljcgehhnmamaaCB22
import Derived.Test.YtfljcgehhnmamaaCB26
import Derived.Test.YtfljcgehhnmamaaCB27
import Derived.Test.YtfljcgehhnmamaaCB32
import Derived.Test.YtfljcgehhnmamaaCB36
/- ref08.Field: a field of a level from 1 to 3, whatever the numbers; nothing at its border is inside (printed by mk_Field.py). -/
namespace Go.Proofs.Ytfljcgehhnmamaa
open Go.RowKit Go.Sort
theorem okF_set {F : List Bool} {n m i : Nat} {b : Bool} (h : okF F n m = true) (hi : ∀ j, j < 3 → badC n (compK (n + 1) i j) = false) : okF (F.set i b) n m = true := by
  unfold okF at h ⊢
  refine List.all_eq_true.2 fun k hk => ?_
  have h0 := List.all_eq_true.1 h k hk
  unfold okK at h0 ⊢
  by_cases hik : i = k
  · subst hik
    rw [Bool.or_eq_true]
    refine .inr (List.all_eq_true.2 fun j hj => ?_)
    rw [hi j (List.mem_range.1 hj)]; rfl
  · have e : (F.set i b).getD k false = F.getD k false := by
      rw [List.getD_eq_getElem?_getD, List.getD_eq_getElem?_getD, List.getElem?_set_ne hik]
    rw [e]; exact h0
theorem okF_none (N n m : Nat) : okF (List.replicate N false) n m = true := by
  unfold okF
  refine List.all_eq_true.2 fun k _ => ?_
  unfold okK
  rw [List.getD_eq_getElem?_getD, List.getElem?_replicate]
  split <;> rfl
theorem inner_ok {n x y z : Nat} (hx : x + 1 < n) (hy : y + 1 < n) (hz : z + 1 < n) : ∀ j, j < 3 → badC n (compK (n + 1) (((1 + z) * (n + 1) + (1 + y)) * (n + 1) + (1 + x)) j) = false := by
  obtain ⟨e1, e2, e3⟩ := cell_no (n := n + 1) (x := 1 + x) (y := 1 + y) (z := 1 + z) (by omega) (by omega)
  intro j hj
  have hc : j = 0 ∨ j = 1 ∨ j = 2 := by omega
  unfold badC compK
  rcases hc with rfl | rfl | rfl
  · rw [if_pos rfl, e1]; simp; omega
  · rw [if_neg (by omega), if_pos rfl, e2]; simp; omega
  · rw [if_neg (by omega), if_neg (by omega), e3]; simp; omega
theorem inner_lt {n x y z : Nat} (hx : x + 1 < n) (hy : y + 1 < n) (hz : z + 1 < n) : ((1 + z) * (n + 1) + (1 + y)) * (n + 1) + (1 + x) < (n + 1) * (n + 1) * (n + 1) := by
  have h1 : (1 + z) * (n + 1) + (1 + y) + 1 ≤ (n + 1) * (n + 1) := by
    have : (1 + z + 1) * (n + 1) ≤ (n + 1) * (n + 1) := Nat.mul_le_mul_right _ (by omega)
    rw [Nat.succ_mul] at this
    omega
  have h2 : ((1 + z) * (n + 1) + (1 + y) + 1) * (n + 1) ≤ (n + 1) * (n + 1) * (n + 1) := Nat.mul_le_mul_right _ h1
  rw [Nat.succ_mul] at h2
  omega
theorem fld_ret {w V : World} {L : Int} {g N : Nat} {a0 a1 : Value} {fn : Func} {R : Ending → World → Prop} {a : Act} {w' : World} (hd : a.defers = []) (h : Blk V w.heap.size 26 #[a0, a1])
    (hr : ∀ Z : World, Z.cell? ⟨w.heap.size, 0, none⟩ = some (.int .i64 L) → Z.cell? ⟨w.heap.size, 1, none⟩ = some (.slice (some ⟨g, 0, none⟩) N N) → (results fn a.tmps).run Try.prog Z = .ok (.agg #[.int .i64 L, .slice (some ⟨g, 0, none⟩) N N]) Z)
    (hw : w' = (V.setCell ⟨w.heap.size, 0, none⟩ (.int .i64 L)).setCell ⟨w.heap.size, 1, none⟩ (.slice (some ⟨g, 0, none⟩) N N))
    (hR : ∀ W, W = (V.setCell ⟨w.heap.size, 0, none⟩ (.int .i64 L)).setCell ⟨w.heap.size, 1, none⟩ (.slice (some ⟨g, 0, none⟩) N N) → R (.returned (.agg #[.int .i64 L, .slice (some ⟨g, 0, none⟩) N N])) W) : bodyPost Try.prog fn R .ret a w' := by
  subst hw
  have h2 := (h.set_ 0 (.int .i64 L)).set_ 1 (.slice (some ⟨g, 0, none⟩) N N)
  exact bodyPost_ret (hr _ (h2.cell 0) (h2.cell 1)) hd (hR _ rfl)
/-- What the loop has: a field whose border is outside. -/
structure FdS (l N s b0 : Nat) (X0 wx : World) (gf g : Nat) (F : List Bool) : Prop where
  box : FBox wx gf g l F
  len : F.length = N
  ok : okF F s N = true
  bel : Below b0 X0 wx
theorem FdS.put {l N s b0 : Nat} {X0 wx : World} {gf g : Nat} {F : List Bool} (h : FdS l N s b0 X0 wx gf g F) (hne : gf ≠ g) (hg : b0 ≤ g) {i : Nat} {b : Bool} (hi : ∀ j, j < 3 → badC s (compK (s + 1) i j) = false) :
    FdS l N s b0 X0 (wx.setCell ⟨g, i, none⟩ (.bool b)).drew gf g (F.set i b) :=
  ⟨(h.box.set hne i b).drew, by rw [List.length_set]; exact h.len, okF_set h.ok hi, (h.bel.setCell (by dsimp only; omega) _).drew⟩
end Go.Proofs.Ytfljcgehhnmamaa
/- Layer 8, plain: the turned field and its surface. No program. -/
namespace Go.Proofs.Ytfljcgehhnmamaa
open Go.RowKit
/-- Where vertex k goes: x, y, z to y, z, x. -/
def vtxT (s k : Nat) : Nat := (k % s * s + k / s / s) * s + k / s % s
/-- The turned field, once its first k vertices are laid. -/
def turnF (F : List Bool) (s : Nat) : Nat → List Bool
  | 0 => List.replicate F.length false
  | k + 1 => (turnF F s k).set (vtxT s k) (F.getD k false)
theorem turnF_length (F : List Bool) (s k : Nat) : (turnF F s k).length = F.length := by
  induction k with
  | zero => simp [turnF]
  | succ k ih => rw [turnF, List.length_set, ih]
theorem three_lt {s x y z : Nat} (hx : x < s) (hy : y < s) (hz : z < s) : (z * s + y) * s + x < s * s * s := by
  have h1 : z * s + s ≤ s * s := by have := Nat.mul_le_mul_right s (show z + 1 ≤ s by omega); rw [Nat.succ_mul] at this; exact this
  have h2 : (z * s + y) * s + s ≤ s * s * s := by have := Nat.mul_le_mul_right s (show z * s + y + 1 ≤ s * s by omega); rw [Nat.succ_mul] at this; exact this
  omega
theorem three_of {s k : Nat} (hk : k < s * s * s) : k % s < s ∧ k / s % s < s ∧ k / s / s < s ∧ k = (k / s / s * s + k / s % s) * s + k % s := by
  have hs : 0 < s := by
    rcases Nat.eq_zero_or_pos s with rfl | h
    · simp at hk
    · exact h
  refine ⟨Nat.mod_lt _ hs, Nat.mod_lt _ hs, ?_, ?_⟩
  · exact (Nat.div_lt_iff_lt_mul hs).2 ((Nat.div_lt_iff_lt_mul hs).2 (by rw [show s * s * s = s * s * s from rfl] at hk; exact hk))
  · rw [Nat.div_add_mod' (k / s) s, Nat.div_add_mod' k s]
theorem vtxT_at {s x y z : Nat} (hx : x < s) (hy : y < s) : vtxT s ((z * s + y) * s + x) = (x * s + z) * s + y := by
  obtain ⟨e1, e2, e3⟩ := cell_no (z := z) hx hy
  unfold vtxT
  rw [e1, e2, e3]
theorem vtxT_lt {s k : Nat} (hk : k < s * s * s) : vtxT s k < s * s * s := by
  obtain ⟨h1, h2, h3, _⟩ := three_of hk
  exact three_lt h2 h3 h1
theorem vtxT_inj {s j k : Nat} (hj : j < s * s * s) (hk : k < s * s * s) (e : vtxT s j = vtxT s k) : j = k := by
  obtain ⟨a1, a2, a3, a4⟩ := three_of hj
  obtain ⟨b1, b2, b3, b4⟩ := three_of hk
  unfold vtxT at e
  obtain ⟨c1, c2, c3⟩ := cell_no (x := j / s % s) (y := j / s / s) (z := j % s) a2 a3
  obtain ⟨d1, d2, d3⟩ := cell_no (x := k / s % s) (y := k / s / s) (z := k % s) b2 b3
  rw [e] at c1 c2 c3
  rw [a4, b4, ← c1, ← c2, ← c3, d1, d2, d3]
theorem turnF_get {F : List Bool} {s : Nat} (hF : F.length = s * s * s) : ∀ k, k ≤ F.length → ∀ j, j < F.length → (turnF F s k).getD (vtxT s j) false = if j < k then F.getD j false else false
  | 0, _, j, hj => by
    rw [if_neg (by omega), turnF, List.getD_eq_getElem?_getD, List.getElem?_replicate]
    split <;> rfl
  | k + 1, hk, j, hj => by
    have ih := turnF_get hF k (by omega) j hj
    rw [turnF, List.getD_eq_getElem?_getD]
    by_cases e : j = k
    · subst e
      rw [List.getElem?_set_self (by rw [turnF_length]; rw [hF]; exact vtxT_lt (by omega)), if_pos (by omega)]
      rfl
    · rw [List.getElem?_set_ne (fun h => e (vtxT_inj (by omega) (by omega) h.symm)), ← List.getD_eq_getElem?_getD, ih]
      by_cases h : j < k
      · rw [if_pos h, if_pos (by omega)]
      · rw [if_neg h, if_neg (by omega)]
theorem comp_turn {s k : Nat} (hk : k < s * s * s) : compK s (vtxT s k) 0 = compK s k 1 ∧ compK s (vtxT s k) 1 = compK s k 2 ∧ compK s (vtxT s k) 2 = compK s k 0 := by
  obtain ⟨a1, a2, a3, a4⟩ := three_of hk
  obtain ⟨c1, c2, c3⟩ := cell_no (x := k / s % s) (y := k / s / s) (z := k % s) a2 a3
  exact ⟨c1, c2, c3⟩
theorem okF_off {F : List Bool} {n m i : Nat} (h : okF F n m = true) : okF (F.set i false) n m = true := by
  unfold okF at h ⊢
  refine List.all_eq_true.2 fun k hk => ?_
  have h0 := List.all_eq_true.1 h k hk
  by_cases hik : i = k
  · subst hik
    refine okK_out ?_
    rw [List.getD_eq_getElem?_getD, List.getElem?_set]
    split
    · split <;> rfl
    · contradiction
  · unfold okK at h0 ⊢
    rw [List.getD_eq_getElem?_getD, List.getElem?_set_ne hik, ← List.getD_eq_getElem?_getD]
    exact h0
theorem okK_get {F : List Bool} {n k : Nat} (h : okK F n k = true) (hF : F.getD k false = true) : ∀ j, j < 3 → badC n (compK (n + 1) k j) = false := by
  intro j hj
  unfold okK at h
  rw [hF] at h
  simp only [Bool.not_true, Bool.false_or, List.all_eq_true, List.mem_range, Bool.not_eq_true'] at h
  exact h j hj
theorem okF_get {F : List Bool} {n m k : Nat} (h : okF F n m = true) (hk : k < m) (hF : F.getD k false = true) : ∀ j, j < 3 → badC n (compK (n + 1) k j) = false :=
  okK_get (List.all_eq_true.1 h k (List.mem_range.2 hk)) hF
theorem turnF_ok {F : List Bool} {n : Nat} (hF : F.length = (n + 1) * (n + 1) * (n + 1)) (h : okF F n F.length = true) : ∀ k, k ≤ F.length → okF (turnF F (n + 1) k) n F.length = true
  | 0, _ => okF_none _ _ _
  | k + 1, hk => by
    have ih := turnF_ok hF h k (by omega)
    rw [turnF]
    cases hb : F.getD k false with
    | false => exact okF_off ih
    | true =>
      have hg := okF_get h (by omega) hb
      obtain ⟨c0, c1, c2⟩ := comp_turn (s := n + 1) (k := k) (by omega)
      refine okF_set ih fun j hj => ?_
      have hc : j = 0 ∨ j = 1 ∨ j = 2 := by omega
      rcases hc with rfl | rfl | rfl
      · rw [c0]; exact hg 1 (by omega)
      · rw [c1]; exact hg 2 (by omega)
      · rw [c2]; exact hg 0 (by omega)
/-- The whole turned field. -/
def turnG (F : List Bool) (s : Nat) : List Bool := turnF F s F.length
theorem turnG_get {F : List Bool} {s x y z : Nat} (hF : F.length = s * s * s) (hx : x < s) (hy : y < s) (hz : z < s) : (turnG F s).getD ((x * s + z) * s + y) false = F.getD ((z * s + y) * s + x) false := by
  have h := three_lt hx hy hz
  have := turnF_get hF F.length (Nat.le_refl _) ((z * s + y) * s + x) (by omega)
  rw [vtxT_at hx hy, if_pos (by omega)] at this
  exact this
theorem valid_parts {l : Nat} {F : List Bool} (h : validF l F = true) : F.length = (2 ^ l + 1) * (2 ^ l + 1) * (2 ^ l + 1) ∧ okF F (2 ^ l) F.length = true := by
  unfold validF at h
  simp only [Bool.and_eq_true, decide_eq_true_eq, Int.toNat_natCast] at h
  exact ⟨h.1.2, h.2⟩
theorem valid_of {l : Nat} {F : List Bool} (h1 : 1 ≤ l) (h3 : l ≤ 3) (hl : F.length = (2 ^ l + 1) * (2 ^ l + 1) * (2 ^ l + 1)) (h : okF F (2 ^ l) F.length = true) : validF l F = true := by
  unfold validF
  have hL : (1 : Int) ≤ (l : Int) ∧ (l : Int) ≤ 8 := by omega
  rw [decide_eq_true hL, Int.toNat_natCast, decide_eq_true hl, h]
  rfl
theorem turnG_valid {l : Nat} {F : List Bool} (h1 : 1 ≤ l) (h3 : l ≤ 3) (h : validF l F = true) : validF l (turnG F (2 ^ l + 1)) = true := by
  obtain ⟨hl, hok⟩ := valid_parts h
  refine valid_of h1 h3 ?_ ?_
  · rw [turnG, turnF_length, hl]
  · rw [show (turnG F (2 ^ l + 1)).length = F.length from turnF_length _ _ _]
    exact turnF_ok hl hok _ (Nat.le_refl _)
/-! Its cells. -/
theorem insL_bits (F : List Bool) (n k v : Nat) (hv : v < 8) : insL (bitsF F n k) v = insF F (n + 1) (k % n) (k / n % n) (k / n / n) v := by
  unfold insL bitsF
  rw [List.getD_eq_getElem?_getD, List.getElem?_map, List.getElem?_range hv]
  rfl
theorem bits_turn {F : List Bool} {n k : Nat} (hF : F.length = (n + 1) * (n + 1) * (n + 1)) (hk : k < n * n * n) : bitsF (turnG F (n + 1)) n (vtxT n k) = turnL (bitsF F n k) := by
  obtain ⟨a1, a2, a3, a4⟩ := three_of hk
  obtain ⟨c1, c2, c3⟩ := cell_no (x := k / n % n) (y := k / n / n) (z := k % n) a2 a3
  have key : ∀ a b c : Nat, a ≤ 1 → b ≤ 1 → c ≤ 1 → (turnG F (n + 1)).getD (((k % n + a) * (n + 1) + (k / n / n + c)) * (n + 1) + (k / n % n + b)) false = F.getD (((k / n / n + c) * (n + 1) + (k / n % n + b)) * (n + 1) + (k % n + a)) false := fun a b c ha hb hc => turnG_get hF (by omega) (by omega) (by omega)
  unfold turnL
  rw [insL_bits _ _ _ _ (by omega), insL_bits _ _ _ _ (by omega), insL_bits _ _ _ _ (by omega), insL_bits _ _ _ _ (by omega), insL_bits _ _ _ _ (by omega), insL_bits _ _ _ _ (by omega), insL_bits _ _ _ _ (by omega), insL_bits _ _ _ _ (by omega)]
  unfold bitsF vtxT
  rw [c1, c2, c3]
  simp only [show List.range 8 = [0, 1, 2, 3, 4, 5, 6, 7] from rfl, List.map_cons, List.map_nil, insF, vtx, Nat.reduceDiv, Nat.reduceMod, Nat.add_assoc]
  simp only [← Nat.add_assoc]
  congr 1
  · exact key 0 0 0 (by omega) (by omega) (by omega)
  congr 1
  · exact key 0 1 0 (by omega) (by omega) (by omega)
  congr 1
  · exact key 0 0 1 (by omega) (by omega) (by omega)
  congr 1
  · exact key 0 1 1 (by omega) (by omega) (by omega)
  congr 1
  · exact key 1 0 0 (by omega) (by omega) (by omega)
  congr 1
  · exact key 1 1 0 (by omega) (by omega) (by omega)
  congr 1
  · exact key 1 0 1 (by omega) (by omega) (by omega)
  congr 1
  exact key 1 1 1 (by omega) (by omega) (by omega)
theorem turn_sh (v : Pt) (t : Tri) : turnT (shT v t) = shT (turnP v) (turnT t) := rfl
theorem turnT_cyc (t : Tri) : turnT (cycT8 t) = cycT8 (turnT t) := rfl
theorem turnP_inj {p q : Pt} (h : turnP p = turnP q) : p = q := by
  obtain ⟨a, b, c⟩ := p
  obtain ⟨d, e, f⟩ := q
  simp only [turnP, Prod.mk.injEq] at h ⊢
  omega
theorem distT8_turn {t : Tri} (h : distT8 t) : distT8 (turnT t) := ⟨fun e => h.1 (turnP_inj e), fun e => h.2.1 (turnP_inj e), fun e => h.2.2 (turnP_inj e)⟩
theorem shT_cyc (v : Pt) (t : Tri) : shT v (cycT8 t) = cycT8 (shT v t) := rfl
theorem ltP_sh (v p q : Pt) : ltP (addP v p) (addP v q) = ltP p q := by
  obtain ⟨a, b, c⟩ := v
  obtain ⟨d, e, f⟩ := p
  obtain ⟨g, h, i⟩ := q
  simp only [ltP, addP]
  rw [Bool.eq_iff_iff]
  simp
theorem rotT_sh (v : Pt) (t : Tri) : rotT (shT v t) = shT v (rotT t) := by
  obtain ⟨a, b, c⟩ := t
  unfold rotT shT
  simp only [ltP_sh]
  split <;> split <;> rfl
theorem SameS.sh {s t : List Tri} (h : SameS s t) (v : Pt) : SameS (s.map (shT v)) (t.map (shT v)) := by
  unfold SameS at *
  rw [List.map_map, List.map_map]
  have e : ∀ u : List Tri, u.map (rotT ∘ shT v) = (u.map rotT).map (shT v) := fun u => by
    rw [List.map_map]
    exact List.map_congr_left fun t _ => rotT_sh v t
  rw [e, e]
  exact h.map _
theorem cell_turned {F : List Bool} {n k : Nat} {h : Int} (hh : SideH h) (hF : F.length = (n + 1) * (n + 1) * (n + 1)) (hk : k < n * n * n) :
    SameS ((cellTs (bitsF F n k) (cellAt n k) h).map turnT) (cellTs (bitsF (turnG F (n + 1)) n (vtxT n k)) (cellAt n (vtxT n k)) h) := by
  obtain ⟨a1, a2, a3, a4⟩ := three_of hk
  obtain ⟨c1, c2, c3⟩ := cell_no (x := k / n % n) (y := k / n / n) (z := k % n) a2 a3
  rw [bits_turn hF hk, cellTs_shift (bitsF_length F n k), cellTs_shift (l := turnL _) rfl]
  have e : cellAt n (vtxT n k) = turnP (cellAt n k) := by
    unfold cellAt vtxT turnP
    rw [c1, c2, c3]
  rw [e]
  obtain ⟨c, hc⟩ : ∃ c, c = cellAt n k := ⟨_, rfl⟩
  rw [← hc]
  have hp : SameS (cellTs (turnL (bitsF F n k)) (0, 0, 0) h) ((cellTs (bitsF F n k) (0, 0, 0) h).map turnT) := turn_cell h hh (bitsF_length F n k)
  have e2 : ((cellTs (bitsF F n k) (0, 0, 0) h).map (shT (c.1 * h, c.2.1 * h, c.2.2 * h))).map turnT = ((cellTs (bitsF F n k) (0, 0, 0) h).map turnT).map (shT ((turnP c).1 * h, (turnP c).2.1 * h, (turnP c).2.2 * h)) := by
    rw [List.map_map, List.map_map]
    rfl
  rw [e2]
  exact hp.symm.sh _
theorem vtxT_perm (n : Nat) : ((List.range (n * n * n)).map (vtxT n)).Perm (List.range (n * n * n)) := by
  refine (List.perm_ext_iff_of_nodup ?_ List.nodup_range).2 fun j => ?_
  · refine List.pairwise_map.2 (List.pairwise_iff_getElem.2 fun i j hi hj hij e => ?_)
    simp only [List.length_range, List.getElem_range] at hi hj e
    have := vtxT_inj hi hj e
    omega
  · rw [List.mem_map]
    constructor
    · rintro ⟨k, hk, rfl⟩
      exact List.mem_range.2 (vtxT_lt (List.mem_range.1 hk))
    · intro hj
      obtain ⟨a1, a2, a3, a4⟩ := three_of (List.mem_range.1 hj)
      refine ⟨(j / n % n * n + j % n) * n + j / n / n, List.mem_range.2 (three_lt a3 a1 a2), ?_⟩
      rw [vtxT_at a3 a1, ← a4]
/-- The law: the turned field's surface is the turned surface. -/
theorem turned_law {l : Nat} {F : List Bool} (h1 : 1 ≤ l) (h3 : l ≤ 3) (hv : validF l F = true) :
    canonO ((contourP l F).map turnT) = canonO (contourP l (turnG F (2 ^ l + 1))) := by
  have hh : SideH ((2 ^ (21 - l) : Nat) : Int) := sideE h1 h3
  rw [canonO_T, canonO_T, contour_lvl hv, contour_lvl (turnG_valid h1 h3 hv)]
  refine SameS.canon ?_
  have hl := (valid_parts hv).1
  obtain ⟨h, hhe⟩ : ∃ h : Int, h = ((2 ^ (21 - l) : Nat) : Int) := ⟨_, rfl⟩
  rw [← hhe] at hh ⊢
  obtain ⟨n, hn⟩ : ∃ n, n = 2 ^ l := ⟨_, rfl⟩
  rw [← hn] at hl ⊢
  refine (same_map turnT_cyc fun t ht => distT8_turn (dist_ctr hh F n _ t ht)).trans (SameS.trans ?_ (same_canon (dist_ctr hh _ n _)).symm)
  unfold ctrL
  rw [List.map_flatMap]
  exact SameS.renum (vtxT n) (vtxT_perm n) fun k hk => cell_turned hh hl hk
end Go.Proofs.Ytfljcgehhnmamaa
/- Layer 8, plain: small fields laid into a greater grid: moved, and side by side. No program. -/
namespace Go.Proofs.Ytfljcgehhnmamaa
open Go.RowKit
def orF (G : List Bool) (i : Nat) (b : Bool) : List Bool := G.set i (G.getD i false || b)
theorem orF_length (G : List Bool) (i : Nat) (b : Bool) : (orF G i b).length = G.length := by simp [orF]
theorem orF_get {G : List Bool} {i : Nat} (hi : i < G.length) (b : Bool) (j : Nat) : (orF G i b).getD j false = (G.getD j false || (decide (j = i) && b)) := by
  unfold orF
  rw [List.getD_eq_getElem?_getD]
  by_cases h : j = i
  · subst h
    rw [List.getElem?_set_self hi]
    simp
  · rw [List.getElem?_set_ne (fun e => h e.symm), ← List.getD_eq_getElem?_getD]
    simp [h]
theorem orF_true (G : List Bool) (i : Nat) : orF G i true = G.set i true := by simp [orF]
theorem orF_false {G : List Bool} {i : Nat} (hi : i < G.length) : orF G i false = G := by
  unfold orF
  rw [Bool.or_false, List.getD_eq_getElem?_getD, List.getElem?_eq_getElem hi]
  simp
/-- Where vertex k of 5 in each direction lies among 9, moved by o. -/
def idx9 (o : Nat × Nat × Nat) (k : Nat) : Nat := ((k / 25 + o.2.2) * 9 + (k / 5 % 5 + o.2.1)) * 9 + (k % 5 + o.1)
def smallO (o : Nat × Nat × Nat) : Prop := o.1 ≤ 4 ∧ o.2.1 ≤ 4 ∧ o.2.2 ≤ 4
theorem idx9_lt {o : Nat × Nat × Nat} (ho : smallO o) {k : Nat} (hk : k < 125) : idx9 o k < 729 := by
  unfold idx9
  obtain ⟨h1, h2, h3⟩ := ho
  omega
def placeF (S : List Bool) (o : Nat × Nat × Nat) : Nat → List Bool
  | 0 => List.replicate 729 false
  | k + 1 => orF (placeF S o k) (idx9 o k) (S.getD k false)
def bothF (S T : List Bool) (o q : Nat × Nat × Nat) : Nat → List Bool
  | 0 => List.replicate 729 false
  | k + 1 => orF (orF (bothF S T o q k) (idx9 o k) (S.getD k false)) (idx9 q k) (T.getD k false)
theorem placeF_length (S : List Bool) (o : Nat × Nat × Nat) (k : Nat) : (placeF S o k).length = 729 := by
  induction k with
  | zero => exact List.length_replicate
  | succ k ih => rw [placeF, orF_length, ih]
theorem bothF_length (S T : List Bool) (o q : Nat × Nat × Nat) (k : Nat) : (bothF S T o q k).length = 729 := by
  induction k with
  | zero => exact List.length_replicate
  | succ k ih => rw [bothF, orF_length, orF_length, ih]
theorem none_get (n j : Nat) : (List.replicate n false).getD j false = false := by
  rw [List.getD_eq_getElem?_getD, List.getElem?_replicate]
  split <;> rfl
theorem bothF_get {S T : List Bool} {o q : Nat × Nat × Nat} (ho : smallO o) (hq : smallO q) : ∀ k, k ≤ 125 → ∀ j, (bothF S T o q k).getD j false = ((placeF S o k).getD j false || (placeF T q k).getD j false)
  | 0, _, j => by rw [bothF, placeF, placeF, none_get]; rfl
  | k + 1, hk, j => by
    have ih := bothF_get (S := S) (T := T) ho hq k (by omega) j
    rw [bothF, placeF, placeF, orF_get (by rw [orF_length, bothF_length]; exact idx9_lt hq (by omega)), orF_get (by rw [bothF_length]; exact idx9_lt ho (by omega)), orF_get (by rw [placeF_length]; exact idx9_lt ho (by omega)), orF_get (by rw [placeF_length]; exact idx9_lt hq (by omega)), ih]
    cases (placeF S o k).getD j false <;> cases (placeF T q k).getD j false <;> cases (decide (j = idx9 o k) && S.getD k false) <;> rfl
theorem placeF_get {S : List Bool} {o : Nat × Nat × Nat} (ho : smallO o) : ∀ k, k ≤ 125 → ∀ j, (placeF S o k).getD j false = true ↔ ∃ m, m < k ∧ j = idx9 o m ∧ S.getD m false = true
  | 0, _, j => by
    rw [placeF, none_get]
    constructor
    · intro h; cases h
    · rintro ⟨m, hm, _⟩; omega
  | k + 1, hk, j => by
    have ih := placeF_get (S := S) ho k (by omega) j
    rw [placeF, orF_get (by rw [placeF_length]; exact idx9_lt ho (by omega)), Bool.or_eq_true, ih, Bool.and_eq_true, decide_eq_true_eq]
    constructor
    · rintro (⟨m, h1, h2⟩ | ⟨h1, h2⟩)
      · exact ⟨m, by omega, h2⟩
      · exact ⟨k, by omega, h1, h2⟩
    · rintro ⟨m, h1, h2⟩
      by_cases h : m = k
      · subst h; exact .inr h2
      · exact .inl ⟨m, by omega, h2⟩
/-- The vertex x, y, z of the greater grid. -/
def V9 (G : List Bool) (x y z : Nat) : Bool := G.getD ((z * 9 + y) * 9 + x) false
def V5 (S : List Bool) (x y z : Nat) : Bool := S.getD ((z * 5 + y) * 5 + x) false
theorem placeF_at {S : List Bool} {o : Nat × Nat × Nat} (ho : smallO o) {x y z : Nat} (hx : x < 9) (hy : y < 9) (_hz : z < 9) :
    V9 (placeF S o 125) x y z = true ↔ ∃ p q r, p < 5 ∧ q < 5 ∧ r < 5 ∧ x = p + o.1 ∧ y = q + o.2.1 ∧ z = r + o.2.2 ∧ V5 S p q r = true := by
  unfold V9 V5
  rw [placeF_get ho 125 (Nat.le_refl _)]
  unfold idx9
  obtain ⟨h1, h2, h3⟩ := ho
  constructor
  · rintro ⟨m, hm, e, hS⟩
    refine ⟨m % 5, m / 5 % 5, m / 25, by omega, by omega, by omega, by omega, by omega, by omega, ?_⟩
    rw [show (m / 25 * 5 + m / 5 % 5) * 5 + m % 5 = m by omega]
    exact hS
  · rintro ⟨p, q, r, hp, hq, hr, e1, e2, e3, hS⟩
    refine ⟨(r * 5 + q) * 5 + p, by omega, ?_, hS⟩
    rw [show ((r * 5 + q) * 5 + p) / 25 = r by omega, show ((r * 5 + q) * 5 + p) / 5 % 5 = q by omega, show ((r * 5 + q) * 5 + p) % 5 = p by omega, e1, e2, e3]
/-- Nothing at the border. -/
def InS (S : List Bool) : Prop := ∀ p q r, p < 5 → q < 5 → r < 5 → V5 S p q r = true → (1 ≤ p ∧ p ≤ 3) ∧ (1 ≤ q ∧ q ≤ 3) ∧ (1 ≤ r ∧ r ≤ 3)
theorem inS_of {S : List Bool} (h : validF 2 S = true) : InS S := by
  obtain ⟨hl, hok⟩ := valid_parts (l := 2) h
  intro p q r hp hq hr hV
  have hlt := three_lt hp hq hr
  have hg := okF_get hok (k := (r * 5 + q) * 5 + p) (by rw [hl]; exact hlt) hV
  obtain ⟨e1, e2, e3⟩ := cell_no (z := r) hp hq
  have g0 := hg 0 (by omega)
  have g1 := hg 1 (by omega)
  have g2 := hg 2 (by omega)
  unfold badC compK at g0 g1 g2
  simp only [Nat.reducePow, Nat.reduceAdd, if_true] at g0 g1 g2
  rw [e1] at g0
  simp only [Nat.one_ne_zero, if_false] at g1
  rw [e2] at g1
  simp only [show ¬ (2 = 0) by omega, show ¬ (2 = 1) by omega, if_false] at g2
  rw [e3] at g2
  simp only [Bool.or_eq_false_iff, beq_eq_false_iff_ne, ne_eq] at g0 g1 g2
  omega
theorem okF_of {F : List Bool} {n m : Nat} (h : ∀ k, k < m → F.getD k false = true → ∀ j, j < 3 → badC n (compK (n + 1) k j) = false) : okF F n m = true := by
  unfold okF
  refine List.all_eq_true.2 fun k hk => ?_
  cases hF : F.getD k false with
  | false => exact okK_out hF
  | true => exact okK_all (h k (List.mem_range.1 hk) hF)
theorem valid9 {G : List Bool} (hl : G.length = 729) (h : ∀ x y z, x < 9 → y < 9 → z < 9 → V9 G x y z = true → (1 ≤ x ∧ x ≤ 7) ∧ (1 ≤ y ∧ y ≤ 7) ∧ (1 ≤ z ∧ z ≤ 7)) : validF 3 G = true := by
  refine valid_of (l := 3) (by omega) (by omega) hl (okF_of fun k hk hG j hj => ?_)
  rw [hl] at hk
  obtain ⟨a1, a2, a3, a4⟩ := three_of (s := 9) (k := k) hk
  have hb := h (k % 9) (k / 9 % 9) (k / 9 / 9) a1 a2 a3 (by unfold V9; rw [← a4]; exact hG)
  have hc : j = 0 ∨ j = 1 ∨ j = 2 := by omega
  unfold badC compK
  rcases hc with rfl | rfl | rfl
  · simp only [Nat.reducePow, Nat.reduceAdd, if_true]
    simp only [Bool.or_eq_false_iff, beq_eq_false_iff_ne, ne_eq]; omega
  · simp only [Nat.reducePow, Nat.reduceAdd, Nat.one_ne_zero, if_false, if_true]
    simp only [Bool.or_eq_false_iff, beq_eq_false_iff_ne, ne_eq]; omega
  · simp only [Nat.reducePow, Nat.reduceAdd, show ¬ (2 = 0) by omega, show ¬ (2 = 1) by omega, if_false]
    simp only [Bool.or_eq_false_iff, beq_eq_false_iff_ne, ne_eq]; omega
theorem place_valid {S : List Bool} {o : Nat × Nat × Nat} (ho : smallO o) (hS : InS S) : validF 3 (placeF S o 125) = true := by
  refine valid9 (placeF_length _ _ _) fun x y z hx hy hz hV => ?_
  obtain ⟨p, q, r, hp, hq, hr, e1, e2, e3, hV5⟩ := (placeF_at ho hx hy hz).1 hV
  have := hS p q r hp hq hr hV5
  obtain ⟨h1, h2, h3⟩ := ho
  omega
/-! Cells of the greater grid. -/
theorem insF_9 (G : List Bool) (x y z v : Nat) : insF G 9 x y z v = V9 G (x + v % 2) (y + v / 2 % 2) (z + v / 4 % 2) := by
  unfold insF vtx V9
  simp only [Nat.add_assoc]
theorem bits_9 (G : List Bool) {x y z : Nat} (hx : x < 8) (hy : y < 8) : bitsF G 8 ((z * 8 + y) * 8 + x) = (List.range 8).map fun v => V9 G (x + v % 2) (y + v / 2 % 2) (z + v / 4 % 2) := by
  obtain ⟨e1, e2, e3⟩ := cell_no (z := z) hx hy
  unfold bitsF
  rw [e1, e2, e3]
  exact List.map_congr_left fun v _ => insF_9 G x y z v
theorem cell_9 {x y z : Nat} (hx : x < 8) (hy : y < 8) : cellAt 8 ((z * 8 + y) * 8 + x) = ((x : Int), (y : Int), (z : Int)) := by
  obtain ⟨e1, e2, e3⟩ := cell_no (z := z) hx hy
  unfold cellAt
  rw [e1, e2, e3]
set_option maxRecDepth 100000 in
theorem out_cycles : cyclesP (insL (List.replicate 8 false)) = [] := by decide +kernel
theorem out_cell {l : List Bool} (hl : l = (List.range 8).map fun _ => false) (c : Pt) (h : Int) : cellTs l c h = [] := by
  have e : l = List.replicate 8 false := hl
  rw [e, cellTs, out_cycles]
  rfl
/-- The cells that hold something. -/
theorem flat_only {A : Nat → List Tri} {m p : Nat} (τ : Nat → Nat) (hτ : ∀ i, i < p → τ i < m) (hi : ∀ i j, i < p → j < p → τ i = τ j → i = j) (hA : ∀ k, k < m → (∀ i, i < p → τ i ≠ k) → A k = []) :
    ((List.range p).flatMap fun i => A (τ i)).Perm ((List.range m).flatMap A) := by
  have hp : ((List.range p).map τ ++ (List.range m).filter fun k => !((List.range p).map τ).contains k).Perm (List.range m) := by
    refine (List.perm_ext_iff_of_nodup ?_ List.nodup_range).2 fun j => ?_
    · refine List.nodup_append.2 ⟨?_, List.Pairwise.filter _ List.nodup_range, ?_⟩
      · refine List.pairwise_map.2 (List.pairwise_iff_getElem.2 fun i j hi' hj hij e => ?_)
        simp only [List.length_range, List.getElem_range] at hi' hj e
        have := hi i j hi' hj e
        omega
      · rintro x hx y hy rfl
        rw [List.mem_filter] at hy
        have := hy.2
        simp only [Bool.not_eq_true', List.contains_eq_mem, decide_eq_false_iff_not] at this
        exact this hx
    · rw [List.mem_append, List.mem_filter]
      constructor
      · rintro (h | h)
        · obtain ⟨i, hi', rfl⟩ := List.mem_map.1 h
          exact List.mem_range.2 (hτ i (List.mem_range.1 hi'))
        · exact h.1
      · intro h
        by_cases hc : j ∈ (List.range p).map τ
        · exact .inl hc
        · exact .inr ⟨h, by simp only [Bool.not_eq_true', List.contains_eq_mem, decide_eq_false_iff_not]; exact hc⟩
  have h1 := hp.flatMap_right A
  rw [List.flatMap_append, List.flatMap_map] at h1
  have h2 : (((List.range m).filter fun k => !((List.range p).map τ).contains k).flatMap A) = [] := by
    refine List.flatMap_eq_nil_iff.2 fun k hk => ?_
    rw [List.mem_filter] at hk
    refine hA k (List.mem_range.1 hk.1) fun i hi' e => ?_
    have := hk.2
    simp only [Bool.not_eq_true', List.contains_eq_mem, decide_eq_false_iff_not] at this
    exact this (List.mem_map.2 ⟨i, List.mem_range.2 hi', e⟩)
  rw [h2, List.append_nil] at h1
  exact h1
theorem flat_both {α β : Type} (A B : α → List β) : ∀ l : List α, (l.flatMap fun k => A k ++ B k).Perm (l.flatMap A ++ l.flatMap B)
  | [] => List.Perm.refl _
  | k :: l => by
    rw [List.flatMap_cons, List.flatMap_cons, List.flatMap_cons, List.append_assoc, List.append_assoc]
    refine List.Perm.append_left _ ?_
    refine ((flat_both A B l).append_left (B k)).trans ?_
    rw [← List.append_assoc, ← List.append_assoc]
    exact List.perm_append_comm.append_right _
theorem ltT_sh (v : Pt) (s t : Tri) : ltT (shT v s) (shT v t) = ltT s t := by
  have hd : ∀ p q : Pt, decide (addP v p = addP v q) = decide (p = q) := fun p q => by
    rw [Bool.eq_iff_iff, decide_eq_true_eq, decide_eq_true_eq]
    exact ⟨addP_inj v, fun e => by rw [e]⟩
  unfold ltT lexB shT
  simp only [ltP_sh, hd]
/-- The canonical form of a moved surface. -/
theorem canon_sh (v : Pt) (s : List Tri) : (canonT s).map (shT v) = canonT (s.map (shT v)) := by
  refine tot_T.uniq ?_ ?_
  · refine ((canonT_perm s).map _).trans (List.Perm.of_eq ?_)
    rw [List.map_map, List.map_map]
    exact List.map_congr_left fun t _ => (rotT_sh v t).symm
  · refine List.pairwise_map.2 ((tot_T.sorted (s.map rotT)).imp fun h => ?_)
    unfold leO at h ⊢
    rw [ltT_sh]
    exact h
/-- Cell i of 4 in each direction, moved. -/
def cel8 (o : Nat × Nat × Nat) (i : Nat) : Nat := ((i / 16 + o.2.2) * 8 + (i / 4 % 4 + o.2.1)) * 8 + (i % 4 + o.1)
theorem place_only {S : List Bool} {o : Nat × Nat × Nat} (ho : smallO o) (hS : InS S) (h : Int) : ((List.range 64).flatMap fun i => cellTs (bitsF (placeF S o 125) 8 (cel8 o i)) (cellAt 8 (cel8 o i)) h).Perm (ctrL (placeF S o 125) 8 h (8 * 8 * 8)) := by
  have ho' := ho
  obtain ⟨h1, h2, h3⟩ := ho'
  refine flat_only (A := fun k => cellTs (bitsF (placeF S o 125) 8 k) (cellAt 8 k) h) (cel8 o) (fun i hi => by unfold cel8; omega) (fun i j hi hj e => by unfold cel8 at e; omega) fun k hk hno => ?_
  obtain ⟨a1, a2, a3, a4⟩ := three_of (s := 8) (k := k) hk
  have hout : ¬ ((o.1 ≤ k % 8 ∧ k % 8 ≤ o.1 + 3) ∧ (o.2.1 ≤ k / 8 % 8 ∧ k / 8 % 8 ≤ o.2.1 + 3) ∧ (o.2.2 ≤ k / 8 / 8 ∧ k / 8 / 8 ≤ o.2.2 + 3)) := fun hin => by
    refine hno (((k / 8 / 8 - o.2.2) * 4 + (k / 8 % 8 - o.2.1)) * 4 + (k % 8 - o.1)) (by omega) ?_
    unfold cel8
    omega
  obtain ⟨x, hx⟩ : ∃ x, x = k % 8 := ⟨_, rfl⟩
  obtain ⟨y, hy⟩ : ∃ y, y = k / 8 % 8 := ⟨_, rfl⟩
  obtain ⟨z, hz⟩ : ∃ z, z = k / 8 / 8 := ⟨_, rfl⟩
  rw [← hx] at a1 hout
  rw [← hy] at a2 hout
  rw [← hz] at a3 hout
  rw [← hx, ← hy, ← hz] at a4
  rw [a4, bits_9 _ a1 a2]
  refine out_cell (List.map_congr_left fun v hv => ?_) _ _
  have hv := List.mem_range.1 hv
  rw [← Bool.not_eq_true, placeF_at ho (by omega) (by omega) (by omega)]
  rintro ⟨p, q, r, hp, hq, hr, e1, e2, e3, hV⟩
  have := hS p q r hp hq hr hV
  omega
theorem place_bits {S : List Bool} {o : Nat × Nat × Nat} (ho : smallO o) {i : Nat} (hi : i < 64) : bitsF (placeF S o 125) 8 (cel8 o i) = (List.range 8).map fun v => V5 S (i % 4 + v % 2) (i / 4 % 4 + v / 2 % 2) (i / 16 + v / 4 % 2) := by
  have ho' := ho
  obtain ⟨h1, h2, h3⟩ := ho'
  unfold cel8
  rw [bits_9 _ (by omega) (by omega)]
  refine List.map_congr_left fun v hv => ?_
  have hv := List.mem_range.1 hv
  rw [Bool.eq_iff_iff, placeF_at ho (by omega) (by omega) (by omega)]
  constructor
  · rintro ⟨p, q, r, hp, hq, hr, e1, e2, e3, hV⟩
    rw [show i % 4 + v % 2 = p by omega, show i / 4 % 4 + v / 2 % 2 = q by omega, show i / 16 + v / 4 % 2 = r by omega]
    exact hV
  · intro hV
    exact ⟨_, _, _, by omega, by omega, by omega, by omega, by omega, by omega, hV⟩
theorem place_cell {o : Nat × Nat × Nat} (ho : smallO o) {i : Nat} : cellAt 8 (cel8 o i) = (((i % 4 + o.1 : Nat) : Int), ((i / 4 % 4 + o.2.1 : Nat) : Int), ((i / 16 + o.2.2 : Nat) : Int)) := by
  obtain ⟨h1, h2, h3⟩ := ho
  unfold cel8
  exact cell_9 (by omega) (by omega)
theorem shT_shT (u v : Pt) (t : Tri) : shT u (shT v t) = shT (addP u v) t := by
  unfold shT
  simp only [addP_assoc]
/-- The law: a field that is moved has the moved surface. -/
theorem moved_law {S : List Bool} {o : Nat × Nat × Nat} (ho : smallO o) (hv : validF 2 S = true) :
    (contourP 3 (placeF S (0, 0, 0) 125)).map (shT (262144 * (o.1 : Int), 262144 * (o.2.1 : Int), 262144 * (o.2.2 : Int))) = contourP 3 (placeF S o 125) := by
  have hS := inS_of hv
  have h0 : smallO (0, 0, 0) := ⟨Nat.zero_le _, Nat.zero_le _, Nat.zero_le _⟩
  have e1 := contour_lvl (l := 3) (place_valid h0 hS)
  have e2 := contour_lvl (l := 3) (place_valid ho hS)
  rw [show (((3 : Nat) : Int)) = 3 from rfl] at e1 e2
  rw [e1, e2, canon_sh]
  refine SameS.canon ?_
  simp only [Nat.reducePow, Nat.reduceSub, Int.cast_ofNat_Int]
  refine (SameS.of_perm ((place_only h0 hS 262144).symm.map _)).trans (SameS.trans ?_ (SameS.of_perm (place_only ho hS 262144)))
  rw [List.map_flatMap]
  refine SameS.flat _ fun i hi => ?_
  have hi := List.mem_range.1 hi
  rw [cellTs_shift (bitsF_length _ 8 _), cellTs_shift (bitsF_length (placeF S o 125) 8 _), place_bits h0 hi, place_bits ho hi, place_cell h0, place_cell ho, List.map_map]
  refine SameS.of_perm (List.Perm.of_eq (List.map_congr_left fun t _ => ?_))
  show shT _ (shT _ t) = _
  rw [shT_shT]
  refine congrArg (fun v => shT v t) ?_
  simp only [addP, Prod.mk.injEq]
  push_cast
  omega
/-- The law: two fields far from each other. -/
theorem apart_law {S T : List Bool} (hv : validF 2 S = true) (hw : validF 2 T = true) :
    canonO (contourP 3 (placeF S (0, 0, 0) 125) ++ contourP 3 (placeF T (4, 0, 0) 125)) = canonO (contourP 3 (bothF S T (0, 0, 0) (4, 0, 0) 125)) := by
  have hS := inS_of hv
  have hT := inS_of hw
  have h0 : smallO (0, 0, 0) := ⟨Nat.zero_le _, Nat.zero_le _, Nat.zero_le _⟩
  have h4 : smallO (4, 0, 0) := ⟨Nat.le_refl _, Nat.zero_le _, Nat.zero_le _⟩
  have hget : ∀ x y z, V9 (bothF S T (0, 0, 0) (4, 0, 0) 125) x y z = (V9 (placeF S (0, 0, 0) 125) x y z || V9 (placeF T (4, 0, 0) 125) x y z) := fun x y z => bothF_get h0 h4 125 (Nat.le_refl _) _
  have ha : ∀ x y z, x < 9 → y < 9 → z < 9 → V9 (placeF S (0, 0, 0) 125) x y z = true → (1 ≤ x ∧ x ≤ 3) ∧ (1 ≤ y ∧ y ≤ 3) ∧ (1 ≤ z ∧ z ≤ 3) := fun x y z hx hy hz hV => by
    obtain ⟨p, q, r, hp, hq, hr, e1, e2, e3, hV5⟩ := (placeF_at h0 hx hy hz).1 hV
    have := hS p q r hp hq hr hV5
    dsimp only at e1 e2 e3
    omega
  have hb : ∀ x y z, x < 9 → y < 9 → z < 9 → V9 (placeF T (4, 0, 0) 125) x y z = true → (5 ≤ x ∧ x ≤ 7) ∧ (1 ≤ y ∧ y ≤ 3) ∧ (1 ≤ z ∧ z ≤ 3) := fun x y z hx hy hz hV => by
    obtain ⟨p, q, r, hp, hq, hr, e1, e2, e3, hV5⟩ := (placeF_at h4 hx hy hz).1 hV
    have := hT p q r hp hq hr hV5
    dsimp only at e1 e2 e3
    omega
  have hvc : validF 3 (bothF S T (0, 0, 0) (4, 0, 0) 125) = true := valid9 (bothF_length _ _ _ _ _) fun x y z hx hy hz hV => by
    rw [hget, Bool.or_eq_true] at hV
    rcases hV with hV | hV
    · have := ha x y z hx hy hz hV; omega
    · have := hb x y z hx hy hz hV; omega
  have e1 := contour_lvl (l := 3) (place_valid h0 hS)
  have e2 := contour_lvl (l := 3) (place_valid h4 hT)
  have e3 := contour_lvl (l := 3) hvc
  rw [show (((3 : Nat) : Int)) = 3 from rfl] at e1 e2 e3
  rw [e1, e2, e3, canonO_T, canonO_T]
  refine SameS.canon ?_
  simp only [Nat.reducePow, Nat.reduceSub, Int.cast_ofNat_Int]
  have hh : SideH 262144 := .inl rfl
  refine ((same_canon (dist_ctr hh _ 8 _)).append (same_canon (dist_ctr hh _ 8 _))).trans (SameS.trans ?_ (same_canon (dist_ctr hh _ 8 _)).symm)
  unfold ctrL
  refine (SameS.of_perm (flat_both _ _ _).symm).trans (SameS.flat _ fun k hk => ?_)
  obtain ⟨a1, a2, a3, a4⟩ := three_of (s := 8) (k := k) (List.mem_range.1 hk)
  obtain ⟨x, hx⟩ : ∃ x, x = k % 8 := ⟨_, rfl⟩
  obtain ⟨y, hy⟩ : ∃ y, y = k / 8 % 8 := ⟨_, rfl⟩
  obtain ⟨z, hz⟩ : ∃ z, z = k / 8 / 8 := ⟨_, rfl⟩
  rw [← hx] at a1 a4
  rw [← hy] at a2 a4
  rw [← hz] at a3 a4
  rw [a4, bits_9 _ a1 a2, bits_9 _ a1 a2, bits_9 _ a1 a2]
  simp only [hget]
  refine SameS.of_perm (List.Perm.of_eq ?_)
  by_cases hx4 : x < 4
  · have hn : ∀ v, v < 8 → V9 (placeF T (4, 0, 0) 125) (x + v % 2) (y + v / 2 % 2) (z + v / 4 % 2) = false := fun v hv => by
      rw [← Bool.not_eq_true]
      intro h
      have := hb _ _ _ (by omega) (by omega) (by omega) h
      omega
    rw [out_cell (l := (List.range 8).map fun v => V9 (placeF T (4, 0, 0) 125) (x + v % 2) (y + v / 2 % 2) (z + v / 4 % 2)) (List.map_congr_left fun v hv => hn v (List.mem_range.1 hv)), List.append_nil]
    refine congrArg (fun L => cellTs L _ _) ?_
    refine List.map_congr_left fun v hv => ?_
    rw [hn v (List.mem_range.1 hv), Bool.or_false]
  · have hn : ∀ v, v < 8 → V9 (placeF S (0, 0, 0) 125) (x + v % 2) (y + v / 2 % 2) (z + v / 4 % 2) = false := fun v hv => by
      rw [← Bool.not_eq_true]
      intro h
      have := ha _ _ _ (by omega) (by omega) (by omega) h
      omega
    rw [out_cell (l := (List.range 8).map fun v => V9 (placeF S (0, 0, 0) 125) (x + v % 2) (y + v / 2 % 2) (z + v / 4 % 2)) (List.map_congr_left fun v hv => hn v (List.mem_range.1 hv)), List.nil_append]
    refine congrArg (fun L => cellTs L _ _) ?_
    refine List.map_congr_left fun v hv => ?_
    rw [hn v (List.mem_range.1 hv), Bool.false_or]
end Go.Proofs.Ytfljcgehhnmamaa
/- Layer 8, plain: where the corners of a surface lie: on the crossings, or strictly inside of cells. No program. -/
namespace Go.Proofs.Ytfljcgehhnmamaa
open Go.RowKit
/-- The edges of a cell: the lower vertex and the axis. -/
def edgeL : List (Nat × Nat) := [(0, 0), (2, 0), (4, 0), (6, 0), (0, 1), (1, 1), (4, 1), (5, 1), (0, 2), (1, 2), (2, 2), (3, 2)]
def xEdges (l : List Bool) : List (Nat × Nat) := edgeL.filter fun e => insL l e.1 != insL l (e.1 + 2 ^ e.2)
def xPt (h : Int) (e : Nat × Nat) : Pt := pointP (0, 0, 0) h (placeE (e.1 + 8 * e.2))
def inB (h : Int) (p : Pt) : Bool := decide (0 < p.1) && decide (p.1 < h) && (decide (0 < p.2.1) && decide (p.2.1 < h)) && (decide (0 < p.2.2) && decide (p.2.2 < h))
def cOk (h : Int) (l : List Bool) (p : Pt) : Bool := inB h p || (xEdges l).any fun e => decide (p = xPt h e)
def corB (t : Tri) (p : Pt) : Bool := decide (p = t.1) || (decide (p = t.2.1) || decide (p = t.2.2))
def corChk (h : Int) (l : List Bool) : Bool :=
  ((cellTs l (0, 0, 0) h).all fun t => cOk h l t.1 && (cOk h l t.2.1 && cOk h l t.2.2)) && ((xEdges l).all fun e => (cellTs l (0, 0, 0) h).any fun t => corB t (xPt h e))
set_option maxRecDepth 100000 in
theorem cor_all3 : ((allL 8).all (corChk 262144)) = true := by decide +kernel
set_option maxRecDepth 100000 in
theorem cor_all2 : ((allL 8).all (corChk 524288)) = true := by decide +kernel
set_option maxRecDepth 100000 in
theorem cor_all1 : ((allL 8).all (corChk 1048576)) = true := by decide +kernel
/-- p is a corner of t. -/
def CorOf (t : Tri) (p : Pt) : Prop := p = t.1 ∨ p = t.2.1 ∨ p = t.2.2
theorem corB_iff {t : Tri} {p : Pt} : corB t p = true ↔ CorOf t p := by
  unfold corB CorOf
  simp only [Bool.or_eq_true, decide_eq_true_eq]
theorem CorOf.rot {t : Tri} {p : Pt} : CorOf (rotT t) p ↔ CorOf t p := by
  rcases rotT_cases t with e | e | e <;> rw [e]
  · unfold CorOf cycT8
    constructor
    · rintro (h | h | h)
      · exact .inr (.inl h)
      · exact .inr (.inr h)
      · exact .inl h
    · rintro (h | h | h)
      · exact .inr (.inr h)
      · exact .inl h
      · exact .inr (.inl h)
  · unfold CorOf cycT8
    constructor
    · rintro (h | h | h)
      · exact .inr (.inr h)
      · exact .inl h
      · exact .inr (.inl h)
    · rintro (h | h | h)
      · exact .inr (.inl h)
      · exact .inr (.inr h)
      · exact .inl h
def InB (h : Int) (p : Pt) : Prop := (0 < p.1 ∧ p.1 < h) ∧ (0 < p.2.1 ∧ p.2.1 < h) ∧ (0 < p.2.2 ∧ p.2.2 < h)
theorem inB_iff {h : Int} {p : Pt} : inB h p = true ↔ InB h p := by
  unfold inB InB
  simp only [Bool.and_eq_true, decide_eq_true_eq]
  constructor
  · rintro ⟨⟨⟨a, b⟩, c, d⟩, e, f⟩; exact ⟨⟨a, b⟩, ⟨c, d⟩, e, f⟩
  · rintro ⟨⟨a, b⟩, ⟨c, d⟩, e, f⟩; exact ⟨⟨⟨a, b⟩, c, d⟩, e, f⟩
theorem cor_chk {h : Int} (hh : SideH h) {l : List Bool} (hl : l.length = 8) : corChk h l = true := by
  have hm := mem_allL 8 l hl
  rcases hh with rfl | rfl | rfl
  · exact List.all_eq_true.1 cor_all3 l hm
  · exact List.all_eq_true.1 cor_all2 l hm
  · exact List.all_eq_true.1 cor_all1 l hm
theorem cOk_iff {h : Int} {l : List Bool} {p : Pt} : cOk h l p = true ↔ InB h p ∨ ∃ e ∈ xEdges l, p = xPt h e := by
  unfold cOk
  rw [Bool.or_eq_true, inB_iff, List.any_eq_true]
  simp only [decide_eq_true_eq]
theorem cor_first {h : Int} (hh : SideH h) {l : List Bool} (hl : l.length = 8) {t : Tri} (ht : t ∈ cellTs l (0, 0, 0) h) {p : Pt} (hp : CorOf t p) : InB h p ∨ ∃ e ∈ xEdges l, p = xPt h e := by
  have hc := cor_chk hh hl
  unfold corChk at hc
  rw [Bool.and_eq_true] at hc
  have := List.all_eq_true.1 hc.1 t ht
  simp only [Bool.and_eq_true] at this
  refine cOk_iff.1 ?_
  rcases hp with rfl | rfl | rfl
  · exact this.1
  · exact this.2.1
  · exact this.2.2
theorem cor_has {h : Int} (hh : SideH h) {l : List Bool} (hl : l.length = 8) {e : Nat × Nat} (he : e ∈ xEdges l) : ∃ t ∈ cellTs l (0, 0, 0) h, CorOf t (xPt h e) := by
  have hc := cor_chk hh hl
  unfold corChk at hc
  rw [Bool.and_eq_true] at hc
  have := List.all_eq_true.1 hc.2 e he
  obtain ⟨t, ht, h1⟩ := List.any_eq_true.1 this
  exact ⟨t, ht, corB_iff.1 h1⟩
theorem xPt_bd {h : Int} (hh : SideH h) {e : Nat × Nat} (he : e ∈ edgeL) : (0 ≤ (xPt h e).1 ∧ (xPt h e).1 ≤ h) ∧ (0 ≤ (xPt h e).2.1 ∧ (xPt h e).2.1 ≤ h) ∧ (0 ≤ (xPt h e).2.2 ∧ (xPt h e).2.2 ≤ h) := by
  have key : ∀ h : Int, SideH h → ∀ e ∈ edgeL, decide ((0 ≤ (xPt h e).1 ∧ (xPt h e).1 ≤ h) ∧ (0 ≤ (xPt h e).2.1 ∧ (xPt h e).2.1 ≤ h) ∧ (0 ≤ (xPt h e).2.2 ∧ (xPt h e).2.2 ≤ h)) = true := by
    intro h hh
    rw [← List.all_eq_true]
    rcases hh with rfl | rfl | rfl <;> decide +kernel
  exact of_decide_eq_true (key h hh e he)
/-- A cell's corners lie in it. -/
theorem cor_bd {h : Int} (hh : SideH h) {l : List Bool} (hl : l.length = 8) {t : Tri} (ht : t ∈ cellTs l (0, 0, 0) h) {p : Pt} (hp : CorOf t p) : (0 ≤ p.1 ∧ p.1 ≤ h) ∧ (0 ≤ p.2.1 ∧ p.2.1 ≤ h) ∧ (0 ≤ p.2.2 ∧ p.2.2 ≤ h) := by
  rcases cor_first hh hl ht hp with h1 | ⟨e, he, rfl⟩
  · obtain ⟨h1, h2, h3⟩ := h1
    omega
  · exact xPt_bd hh (List.mem_filter.1 he).1
theorem corOf_sh {v : Pt} {t : Tri} {p : Pt} (h : CorOf (shT v t) p) : ∃ q, p = addP v q ∧ CorOf t q := by
  rcases h with h | h | h
  · exact ⟨_, h, .inl rfl⟩
  · exact ⟨_, h, .inr (.inl rfl)⟩
  · exact ⟨_, h, .inr (.inr rfl)⟩
theorem CorOf.sh {v : Pt} {t : Tri} {p : Pt} (h : CorOf t p) : CorOf (shT v t) (addP v p) := by
  rcases h with rfl | rfl | rfl
  · exact .inl rfl
  · exact .inr (.inl rfl)
  · exact .inr (.inr rfl)
/-- A triangle of the surface, by its cell. -/
theorem ctr_mem {F : List Bool} {n : Nat} {h : Int} {t : Tri} (ht : t ∈ ctrL F n h (n * n * n)) : ∃ k u, k < n * n * n ∧ u ∈ cellTs (bitsF F n k) (0, 0, 0) h ∧ t = shT ((cellAt n k).1 * h, (cellAt n k).2.1 * h, (cellAt n k).2.2 * h) u := by
  obtain ⟨k, hk, hu⟩ := List.mem_flatMap.1 ht
  rw [cellTs_shift (bitsF_length F n k)] at hu
  obtain ⟨u, hu', rfl⟩ := List.mem_map.1 hu
  exact ⟨k, u, List.mem_range.1 hk, hu', rfl⟩
theorem mem_ctr {F : List Bool} {n k : Nat} {h : Int} {u : Tri} (hk : k < n * n * n) (hu : u ∈ cellTs (bitsF F n k) (0, 0, 0) h) : shT ((cellAt n k).1 * h, (cellAt n k).2.1 * h, (cellAt n k).2.2 * h) u ∈ ctrL F n h (n * n * n) := by
  refine List.mem_flatMap.2 ⟨k, List.mem_range.2 hk, ?_⟩
  rw [cellTs_shift (bitsF_length F n k)]
  exact List.mem_map.2 ⟨u, hu, rfl⟩
theorem canon_mem {s : List Tri} {t : Tri} : t ∈ canonT s ↔ ∃ u ∈ s, rotT u = t := by
  rw [(canonT_perm s).mem_iff, List.mem_map]
/-- A vertex of the grid. -/
def VF (F : List Bool) (n x y z : Nat) : Bool := F.getD ((z * (n + 1) + y) * (n + 1) + x) false
def axU (a : Nat) : Nat × Nat × Nat := if a = 0 then (1, 0, 0) else if a = 1 then (0, 1, 0) else (0, 0, 1)
/-- The middle of the edge from x, y, z along axis a. -/
def midG (h : Int) (x y z a : Nat) : Pt := ((x : Int) * h + ((axU a).1 : Nat) * (h / 2), (y : Int) * h + ((axU a).2.1 : Nat) * (h / 2), (z : Int) * h + ((axU a).2.2 : Nat) * (h / 2))
/-- The edge from x, y, z along axis a is crossed. -/
def XG (F : List Bool) (n x y z a : Nat) : Prop := VF F n x y z ≠ VF F n (x + (axU a).1) (y + (axU a).2.1) (z + (axU a).2.2)
theorem xPt_mid {h : Int} (hh : SideH h) {e : Nat × Nat} (he : e ∈ edgeL) : xPt h e = midG h (e.1 % 2) (e.1 / 2 % 2) (e.1 / 4 % 2) e.2 ∧ e.2 < 3 ∧ e.1 < 8 ∧ (e.1 + 2 ^ e.2) % 2 = e.1 % 2 + (axU e.2).1 ∧ (e.1 + 2 ^ e.2) / 2 % 2 = e.1 / 2 % 2 + (axU e.2).2.1 ∧ (e.1 + 2 ^ e.2) / 4 % 2 = e.1 / 4 % 2 + (axU e.2).2.2 ∧ e.1 + 2 ^ e.2 < 8 := by
  have key : ∀ h : Int, SideH h → ∀ e ∈ edgeL, decide (xPt h e = midG h (e.1 % 2) (e.1 / 2 % 2) (e.1 / 4 % 2) e.2 ∧ e.2 < 3 ∧ e.1 < 8 ∧ (e.1 + 2 ^ e.2) % 2 = e.1 % 2 + (axU e.2).1 ∧ (e.1 + 2 ^ e.2) / 2 % 2 = e.1 / 2 % 2 + (axU e.2).2.1 ∧ (e.1 + 2 ^ e.2) / 4 % 2 = e.1 / 4 % 2 + (axU e.2).2.2 ∧ e.1 + 2 ^ e.2 < 8) = true := by
    intro h hh
    rw [← List.all_eq_true]
    rcases hh with rfl | rfl | rfl <;> decide +kernel
  exact of_decide_eq_true (key h hh e he)
theorem insF_V (F : List Bool) (n x y z v : Nat) : insF F (n + 1) x y z v = VF F n (x + v % 2) (y + v / 2 % 2) (z + v / 4 % 2) := by
  unfold insF vtx VF
  simp only [Nat.add_assoc]
/-- A corner of the surface is a crossing, or strictly inside of a cell. -/
theorem ctr_cor {F : List Bool} {n : Nat} {h : Int} (hh : SideH h) {t : Tri} (ht : t ∈ ctrL F n h (n * n * n)) {p : Pt} (hp : CorOf t p) :
    (∃ c q : Pt, InB h q ∧ p = addP (c.1 * h, c.2.1 * h, c.2.2 * h) q) ∨ ∃ x y z a, a < 3 ∧ x + (axU a).1 ≤ n ∧ y + (axU a).2.1 ≤ n ∧ z + (axU a).2.2 ≤ n ∧ XG F n x y z a ∧ p = midG h x y z a := by
  obtain ⟨k, u, hk, hu, rfl⟩ := ctr_mem ht
  obtain ⟨q, rfl, hq⟩ := corOf_sh hp
  rcases cor_first hh (bitsF_length F n k) hu hq with h1 | ⟨e, he, rfl⟩
  · exact .inl ⟨_, q, h1, rfl⟩
  · obtain ⟨a1, a2, a3, a4⟩ := three_of hk
    have hem := (List.mem_filter.1 he).1
    have hed := (List.mem_filter.1 he).2
    obtain ⟨m1, m2, m3, m4, m5, m6, m7⟩ := xPt_mid hh hem
    have n0 : (e.1 + 2 ^ e.2) % 2 ≤ 1 := by omega
    have n1 : (e.1 + 2 ^ e.2) / 2 % 2 ≤ 1 := by omega
    have n2 : (e.1 + 2 ^ e.2) / 4 % 2 ≤ 1 := by omega
    refine .inr ⟨k % n + e.1 % 2, k / n % n + e.1 / 2 % 2, k / n / n + e.1 / 4 % 2, e.2, m2, by omega, by omega, by omega, ?_, ?_⟩
    · rw [insL_bits _ _ _ _ m3, insL_bits _ _ _ _ m7, insF_V, insF_V, m4, m5, m6] at hed
      simp only [bne_iff_ne, ne_eq, ← Nat.add_assoc] at hed
      exact hed
    · rw [m1]
      unfold midG addP cellAt
      push_cast
      simp only [Int.add_mul, Int.add_assoc]
/-- A crossed edge whose lower end is the first vertex of a cell gives a corner. -/
theorem cor_ctr {F : List Bool} {n : Nat} {h : Int} (hh : SideH h) {x y z a : Nat} (ha : a < 3) (hx : x < n) (hy : y < n) (hz : z < n) (hX : XG F n x y z a) : ∃ t ∈ ctrL F n h (n * n * n), CorOf t (midG h x y z a) := by
  obtain ⟨e1, e2, e3⟩ := cell_no (z := z) hx hy
  have hk := three_lt hx hy hz
  have he : (0, a) ∈ xEdges (bitsF F n ((z * n + y) * n + x)) := by
    refine List.mem_filter.2 ⟨?_, ?_⟩
    · have hc : a = 0 ∨ a = 1 ∨ a = 2 := by omega
      rcases hc with rfl | rfl | rfl <;> decide
    · have h8 : 0 + 2 ^ a < 8 := by
        have hc : a = 0 ∨ a = 1 ∨ a = 2 := by omega
        rcases hc with rfl | rfl | rfl <;> decide
      rw [insL_bits _ _ _ _ (by omega), insL_bits _ _ _ _ h8, e1, e2, e3, insF_V, insF_V]
      unfold XG at hX
      have hc : a = 0 ∨ a = 1 ∨ a = 2 := by omega
      rcases hc with rfl | rfl | rfl <;> (rw [bne_iff_ne]; exact hX)
  obtain ⟨u, hu, hcu⟩ := cor_has hh (bitsF_length F n _) he
  refine ⟨_, mem_ctr hk hu, ?_⟩
  have hm := (xPt_mid hh (List.mem_filter.1 he).1).1
  rw [hm] at hcu
  have := hcu.sh (v := ((cellAt n ((z * n + y) * n + x)).1 * h, (cellAt n ((z * n + y) * n + x)).2.1 * h, (cellAt n ((z * n + y) * n + x)).2.2 * h))
  have e : addP ((cellAt n ((z * n + y) * n + x)).1 * h, (cellAt n ((z * n + y) * n + x)).2.1 * h, (cellAt n ((z * n + y) * n + x)).2.2 * h) (midG h (0 % 2) (0 / 2 % 2) (0 / 4 % 2) a) = midG h x y z a := by
    unfold cellAt
    rw [e1, e2, e3]
    unfold midG addP
    simp
  rw [e] at this
  exact this
theorem ctr_bd {F : List Bool} {n : Nat} {h : Int} (hh : SideH h) {t : Tri} (ht : t ∈ ctrL F n h (n * n * n)) {p : Pt} (hp : CorOf t p) : (0 ≤ p.1 ∧ p.1 ≤ n * h) ∧ (0 ≤ p.2.1 ∧ p.2.1 ≤ n * h) ∧ (0 ≤ p.2.2 ∧ p.2.2 ≤ n * h) := by
  obtain ⟨k, u, hk, hu, rfl⟩ := ctr_mem ht
  obtain ⟨q, rfl, hq⟩ := corOf_sh hp
  have hb := cor_bd hh (bitsF_length F n k) hu hq
  obtain ⟨a1, a2, a3, a4⟩ := three_of hk
  have h0 : 0 < h := by rcases hh with rfl | rfl | rfl <;> decide
  have key : ∀ c : Nat, c < n → 0 ≤ (c : Int) * h ∧ (c : Int) * h + h ≤ n * h := fun c hc => by
    refine ⟨Int.mul_nonneg (by omega) (by omega), ?_⟩
    have := Int.mul_le_mul_of_nonneg_right (show (c : Int) + 1 ≤ n by omega) (Int.le_of_lt h0)
    rw [Int.add_mul, Int.one_mul] at this
    exact this
  have k1 := key _ a1
  have k2 := key _ a2
  have k3 := key _ a3
  unfold addP cellAt
  dsimp only
  omega
end Go.Proofs.Ytfljcgehhnmamaa
/- Layer 8, plain: a surface's corners are in range, its triangles not many. No program. -/
namespace Go.Proofs.Ytfljcgehhnmamaa
open Go.RowKit
def rangeP (p : Pt) : Prop := (0 ≤ p.1 ∧ p.1 ≤ 2097152) ∧ (0 ≤ p.2.1 ∧ p.2.1 ≤ 2097152) ∧ (0 ≤ p.2.2 ∧ p.2.2 ≤ 2097152)
def rangeT (t : Tri) : Prop := rangeP t.1 ∧ rangeP t.2.1 ∧ rangeP t.2.2
theorem contour_cor {l : Nat} {F : List Bool} (h1 : 1 ≤ l) (h3 : l ≤ 3) (hv : validF l F = true) {t : Tri} (ht : t ∈ contourP l F) {p : Pt} (hp : CorOf t p) : rangeP p := by
  rw [contour_lvl hv] at ht
  obtain ⟨u, hu, rfl⟩ := canon_mem.1 ht
  have hb := ctr_bd (sideE h1 h3) hu (CorOf.rot.1 hp)
  have e : ((2 ^ l : Nat) : Int) * ((2 ^ (21 - l) : Nat) : Int) = 2097152 := by
    have hc : l = 1 ∨ l = 2 ∨ l = 3 := by omega
    rcases hc with rfl | rfl | rfl <;> decide
  rw [e] at hb
  exact hb
theorem contour_range {l : Nat} {F : List Bool} (h1 : 1 ≤ l) (h3 : l ≤ 3) (hv : validF l F = true) : ∀ t ∈ contourP l F, rangeT t := fun _ ht =>
  ⟨contour_cor h1 h3 hv ht (.inl rfl), contour_cor h1 h3 hv ht (.inr (.inl rfl)), contour_cor h1 h3 hv ht (.inr (.inr rfl))⟩
theorem rangeP.fit {p : Pt} (h : rangeP p) : fitsP p := by
  unfold rangeP at h
  unfold fitsP fits
  omega
theorem rangeT.fit {t : Tri} (h : rangeT t) : fitsT t := ⟨h.1.fit, h.2.1.fit, h.2.2.fit⟩
theorem ctrL_few (F : List Bool) (n : Nat) (h : Int) (m : Nat) : (ctrL F n h m).length ≤ 24 * m := by
  induction m with
  | zero => simp [ctrL]
  | succ m ih =>
    rw [ctrL_succ, List.length_append]
    have := cellTs_few (bitsF_length F n m) (cellAt n m) h
    omega
theorem contour_few {l : Nat} {F : List Bool} (h1 : 1 ≤ l) (h3 : l ≤ 3) (hv : validF l F = true) : (contourP l F).length ≤ 12288 := by
  rw [contour_lvl hv, (canonT_perm _).length_eq, List.length_map]
  have h := ctrL_few F (2 ^ l) ((2 ^ (21 - l) : Nat) : Int) (2 ^ l * 2 ^ l * 2 ^ l)
  have hc : l = 1 ∨ l = 2 ∨ l = 3 := by omega
  have : 2 ^ l * 2 ^ l * 2 ^ l ≤ 512 := by rcases hc with rfl | rfl | rfl <;> decide
  omega
end Go.Proofs.Ytfljcgehhnmamaa
