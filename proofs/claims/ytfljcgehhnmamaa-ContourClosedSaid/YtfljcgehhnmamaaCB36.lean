/- Joined texts: ShP DistP TurnP SurfP. -/
import Derived.Test.YtfljcgehhnmamaaCB31
import Derived.Test.YtfljcgehhnmamaaCB35
/- Layer 8, plain: a cell's triangles are those of the first cell, moved. No program. -/
namespace Go.Proofs.Ytfljcgehhnmamaa
open Go.RowKit
def shT (v : Pt) (t : Tri) : Tri := (addP v t.1, addP v t.2.1, addP v t.2.2)
theorem sum_shift (v : Pt) (l : List Pt) : sumP (l.map (addP v)) = ((l.length : Int) * v.1 + (sumP l).1, (l.length : Int) * v.2.1 + (sumP l).2.1, (l.length : Int) * v.2.2 + (sumP l).2.2) := by
  induction l with
  | nil => simp [sumP]
  | cons x l ih =>
    have e1 : sumP ((x :: l).map (addP v)) = addP (addP v x) (sumP (l.map (addP v))) := by
      rw [List.map_cons, sumP, List.foldl_cons, foldl_addP]
      simp [addP]
    have e2 : sumP (x :: l) = addP x (sumP l) := by
      rw [sumP, List.foldl_cons, foldl_addP]
      simp [addP]
    rw [e1, e2, ih]
    simp only [addP, List.length_cons, Prod.mk.injEq]
    push_cast
    refine ⟨?_, ?_, ?_⟩ <;> (rw [Int.add_mul]; omega)
theorem ctr_shift (v : Pt) {l : List Pt} (h0 : 0 < l.length) : ctrP (l.map (addP v)) = addP v (ctrP l) := by
  have hm : (l.length : Int) ≠ 0 := by omega
  unfold ctrP
  rw [sum_shift, List.length_map]
  simp only [addP, Prod.mk.injEq]
  refine ⟨?_, ?_, ?_⟩ <;> rw [Int.add_comm, Int.add_mul_ediv_left _ _ hm, Int.add_comm]
theorem fan_shift (v : Pt) {l : List Pt} (h0 : 0 < l.length) : fanP (l.map (addP v)) = (fanP l).map (shT v) := by
  unfold fanP
  rw [List.length_map]
  split
  · rename_i h3
    rw [nthP_map _ (by omega), nthP_map _ (by omega), nthP_map _ (by omega)]
    rfl
  · unfold fanN
    rw [List.map_map, List.length_map, ctr_shift v h0]
    refine List.map_congr_left fun i hi => ?_
    have hi := List.mem_range.1 hi
    rw [nthP_map _ hi, nthP_map _ (Nat.mod_lt _ h0)]
    rfl
theorem pointP_shift (c : Pt) (h : Int) (p : Pt) : pointP c h p = addP (c.1 * h, c.2.1 * h, c.2.2 * h) (pointP (0, 0, 0) h p) := by
  simp [pointP, addP]
theorem cellTs_shift {l : List Bool} (hl : l.length = 8) (c : Pt) (h : Int) : cellTs l c h = (cellTs l (0, 0, 0) h).map (shT (c.1 * h, c.2.1 * h, c.2.2 * h)) := by
  have hc := cyc_of l hl
  unfold cellTs
  rw [List.map_flatMap]
  have key : ∀ R : List (List Pt), (∀ C ∈ R, C ≠ []) → (R.flatMap fun C => fanP (C.map (pointP c h))) = R.flatMap fun C => (fanP (C.map (pointP (0, 0, 0) h))).map (shT (c.1 * h, c.2.1 * h, c.2.2 * h)) := by
    intro R
    induction R with
    | nil => intro _; rfl
    | cons C R ih =>
      intro hR
      rw [List.flatMap_cons, List.flatMap_cons, ih fun D hD => hR D (by simp [hD])]
      congr 1
      have hp : C.map (pointP c h) = (C.map (pointP (0, 0, 0) h)).map (addP (c.1 * h, c.2.1 * h, c.2.2 * h)) := by
        rw [List.map_map]
        exact List.map_congr_left fun p _ => pointP_shift c h p
      rw [hp, fan_shift _ (by rw [List.length_map]; exact List.length_pos_iff.2 (hR C (by simp)))]
  exact key _ hc.ne
end Go.Proofs.Ytfljcgehhnmamaa
/- Layer 8, plain: the corners of a cell's triangles differ. No program. -/
namespace Go.Proofs.Ytfljcgehhnmamaa
open Go.RowKit
def distB (t : Tri) : Bool := decide (t.1 ≠ t.2.1) && decide (t.2.1 ≠ t.2.2) && decide (t.2.2 ≠ t.1)
def distChk (l : List Bool) : Bool := (cellTs l (0, 0, 0) 1048576).all distB && (cellTs l (0, 0, 0) 524288).all distB && (cellTs l (0, 0, 0) 262144).all distB
set_option maxRecDepth 100000 in
theorem dist_all : ((allL 8).all distChk) = true := by decide +kernel
end Go.Proofs.Ytfljcgehhnmamaa
/- Layer 8, plain: a turned cell's triangles are the turned triangles of the cell. No program. -/
namespace Go.Proofs.Ytfljcgehhnmamaa
open Go.RowKit
def turnP (p : Pt) : Pt := (p.2.1, p.2.2, p.1)
def turnT (t : Tri) : Tri := (turnP t.1, turnP t.2.1, turnP t.2.2)
/-- The bits of the turned cell: vertex a + 2 b + 4 c goes to b + 2 c + 4 a. -/
def turnL (l : List Bool) : List Bool := [insL l 0, insL l 2, insL l 4, insL l 6, insL l 1, insL l 3, insL l 5, insL l 7]
def turnChk (h : Int) (l : List Bool) : Bool := ((cellTs (turnL l) (0, 0, 0) h).map rotT).isPerm (((cellTs l (0, 0, 0) h).map turnT).map rotT)
set_option maxRecDepth 100000 in
theorem turn_all3 : ((allL 8).all (turnChk 262144)) = true := by decide +kernel
set_option maxRecDepth 100000 in
theorem turn_all2 : ((allL 8).all (turnChk 524288)) = true := by decide +kernel
set_option maxRecDepth 100000 in
theorem turn_all1 : ((allL 8).all (turnChk 1048576)) = true := by decide +kernel
theorem turn_cell (h : Int) (hh : h = 262144 ∨ h = 524288 ∨ h = 1048576) {l : List Bool} (hl : l.length = 8) : ((cellTs (turnL l) (0, 0, 0) h).map rotT).Perm (((cellTs l (0, 0, 0) h).map turnT).map rotT) := by
  have hm := mem_allL 8 l hl
  rcases hh with rfl | rfl | rfl
  · exact List.isPerm_iff.1 (List.all_eq_true.1 turn_all3 l hm)
  · exact List.isPerm_iff.1 (List.all_eq_true.1 turn_all2 l hm)
  · exact List.isPerm_iff.1 (List.all_eq_true.1 turn_all1 l hm)
end Go.Proofs.Ytfljcgehhnmamaa
/- Layer 8, plain: surfaces but for order and rotation; maps that keep cycles; cells numbered otherwise. No program. -/
namespace Go.Proofs.Ytfljcgehhnmamaa
open Go.RowKit
theorem canonO_T (s : List Tri) : canonO s = canonT s := rfl
theorem canonT_perm (s : List Tri) : (canonT s).Perm (s.map rotT) := sortO_perm (lt := ltT) (s.map rotT)
theorem rotT_cases (t : Tri) : rotT t = t ∨ rotT t = cycT8 t ∨ rotT t = cycT8 (cycT8 t) := by
  obtain ⟨a, b, c⟩ := t
  unfold rotT
  split <;> split
  · exact .inr (.inr rfl)
  · exact .inr (.inl rfl)
  · exact .inr (.inr rfl)
  · exact .inl rfl
theorem distT8_rot {t : Tri} (h : distT8 t) : distT8 (rotT t) := by
  rcases rotT_cases t with e | e | e <;> rw [e]
  · exact h
  · exact distT8_cyc h
  · exact distT8_cyc (distT8_cyc h)
theorem rotT_rot8 {t : Tri} (h : distT8 t) : rotT (rotT t) = rotT t := by
  rcases rotT_cases t with e | e | e
  · rw [e, e]
  · rw [e, rotT_cyc8 h, e]
  · rw [e, rotT_cyc8 (distT8_cyc h), rotT_cyc8 h, e]
/-- A map that turns with the triangle. -/
theorem rot_equi {f : Tri → Tri} (hc : ∀ t, f (cycT8 t) = cycT8 (f t)) {t : Tri} (hd : distT8 (f t)) : rotT (f (rotT t)) = rotT (f t) := by
  rcases rotT_cases t with e | e | e <;> rw [e]
  · rw [hc, rotT_cyc8 hd]
  · rw [hc, hc, rotT_cyc8 (distT8_cyc hd), rotT_cyc8 hd]
/-- Two surfaces are one but for order and rotation. -/
def SameS (s t : List Tri) : Prop := (s.map rotT).Perm (t.map rotT)
theorem SameS.refl (s : List Tri) : SameS s s := List.Perm.refl _
theorem SameS.symm {s t : List Tri} (h : SameS s t) : SameS t s := List.Perm.symm h
theorem SameS.trans {s t u : List Tri} (h : SameS s t) (k : SameS t u) : SameS s u := List.Perm.trans h k
theorem SameS.append {s t u v : List Tri} (h : SameS s t) (k : SameS u v) : SameS (s ++ u) (t ++ v) := by
  unfold SameS at *
  rw [List.map_append, List.map_append]
  exact h.append k
theorem SameS.of_perm {s t : List Tri} (h : s.Perm t) : SameS s t := h.map _
theorem SameS.canon {s t : List Tri} (h : SameS s t) : canonT s = canonT t := canon_perm8 h
theorem same_canon {s : List Tri} (h : ∀ t ∈ s, distT8 t) : SameS (canonT s) s := by
  unfold SameS
  refine ((canonT_perm s).map rotT).trans (List.Perm.of_eq ?_)
  rw [List.map_map]
  exact List.map_congr_left fun t ht => rotT_rot8 (h t ht)
/-- The surface in canonical form, mapped. -/
theorem same_map {f : Tri → Tri} (hc : ∀ t, f (cycT8 t) = cycT8 (f t)) {s : List Tri} (h : ∀ t ∈ s, distT8 (f t)) : SameS ((canonT s).map f) (s.map f) := by
  unfold SameS
  rw [List.map_map, List.map_map]
  refine ((canonT_perm s).map _).trans (List.Perm.of_eq ?_)
  rw [List.map_map]
  exact List.map_congr_left fun t ht => rot_equi hc (h t ht)
theorem SameS.flat {A B : Nat → List Tri} : ∀ l : List Nat, (∀ k ∈ l, SameS (A k) (B k)) → SameS (l.flatMap A) (l.flatMap B)
  | [], _ => SameS.refl _
  | k :: l, h => by
    rw [List.flatMap_cons, List.flatMap_cons]
    exact (h k (by simp)).append (SameS.flat l fun j hj => h j (by simp [hj]))
/-- Cells numbered otherwise. -/
theorem SameS.renum {A B : Nat → List Tri} {m : Nat} (σ : Nat → Nat) (hσ : ((List.range m).map σ).Perm (List.range m)) (h : ∀ k, k < m → SameS (A k) (B (σ k))) : SameS ((List.range m).flatMap A) ((List.range m).flatMap B) := by
  refine (SameS.flat (B := fun k => B (σ k)) _ fun k hk => h k (List.mem_range.1 hk)).trans ?_
  refine SameS.of_perm ?_
  have e : ((List.range m).flatMap fun k => B (σ k)) = ((List.range m).map σ).flatMap B := by rw [List.flatMap_map]
  rw [e]
  exact hσ.flatMap_right _
/-! Sides of cells. -/
theorem sideE {l : Nat} (h1 : 1 ≤ l) (h3 : l ≤ 3) : ((2 ^ (21 - l) : Nat) : Int) = 262144 ∨ ((2 ^ (21 - l) : Nat) : Int) = 524288 ∨ ((2 ^ (21 - l) : Nat) : Int) = 1048576 := by
  have hc : l = 1 ∨ l = 2 ∨ l = 3 := by omega
  rcases hc with rfl | rfl | rfl <;> decide
def SideH (h : Int) : Prop := h = 262144 ∨ h = 524288 ∨ h = 1048576
theorem SideH.pos {h : Int} (hh : SideH h) : 0 < h / 2 := by rcases hh with rfl | rfl | rfl <;> decide
theorem dist_cell {h : Int} (hh : SideH h) {l : List Bool} (hl : l.length = 8) : ∀ t ∈ cellTs l (0, 0, 0) h, distT8 t := by
  intro t ht
  have hm := List.all_eq_true.1 dist_all l (mem_allL 8 l hl)
  unfold distChk at hm
  simp only [Bool.and_eq_true] at hm
  have key : distB t = true := by
    rcases hh with rfl | rfl | rfl
    · exact List.all_eq_true.1 hm.2 t ht
    · exact List.all_eq_true.1 hm.1.2 t ht
    · exact List.all_eq_true.1 hm.1.1 t ht
  unfold distB at key
  simp only [Bool.and_eq_true, decide_eq_true_eq] at key
  exact ⟨key.1.1, key.1.2, key.2⟩
theorem addP_inj (v : Pt) {p q : Pt} (h : addP v p = addP v q) : p = q := by
  obtain ⟨a, b, c⟩ := p
  obtain ⟨d, e, f⟩ := q
  simp only [addP, Prod.mk.injEq] at h ⊢
  omega
theorem distT8_sh (v : Pt) {t : Tri} (h : distT8 t) : distT8 (shT v t) := ⟨fun e => h.1 (addP_inj v e), fun e => h.2.1 (addP_inj v e), fun e => h.2.2 (addP_inj v e)⟩
theorem dist_cellTs {h : Int} (hh : SideH h) {l : List Bool} (hl : l.length = 8) (c : Pt) : ∀ t ∈ cellTs l c h, distT8 t := by
  intro t ht
  rw [cellTs_shift hl] at ht
  obtain ⟨u, hu, rfl⟩ := List.mem_map.1 ht
  exact distT8_sh _ (dist_cell hh hl u hu)
theorem dist_ctr {h : Int} (hh : SideH h) (F : List Bool) (n m : Nat) : ∀ t ∈ ctrL F n h m, distT8 t := by
  intro t ht
  obtain ⟨k, _, hk⟩ := List.mem_flatMap.1 ht
  exact dist_cellTs hh (bitsF_length F n k) _ t hk
/-- A level's surface. -/
theorem contour_lvl {l : Nat} {F : List Bool} (h : validF l F = true) : contourP l F = canonT (ctrL F (2 ^ l) ((2 ^ (21 - l) : Nat) : Int) (2 ^ l * 2 ^ l * 2 ^ l)) := by
  unfold contourP
  rw [if_pos h, Int.toNat_natCast]
end Go.Proofs.Ytfljcgehhnmamaa
