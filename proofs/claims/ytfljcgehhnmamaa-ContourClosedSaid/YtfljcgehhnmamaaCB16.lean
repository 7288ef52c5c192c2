/- Joined texts: CycP VecD. -/
import Derived.Test.YtfljcgehhnmamaaCB6
import Derived.Test.YtfljcgehhnmamaaCB7
import Derived.Test.YtfljcgehhnmamaaCB10
/- Layer 8: cycles that are taken out of a map, one after the other. -/
namespace Go.Proofs.Ytfljcgehhnmamaa
open Go.RowKit Go.WideMaps Go.Maps
/-- Cycles under nx that share no point. -/
structure Cyc (nx : Pt → Pt) (R : List (List Pt)) : Prop where
  nodup : R.flatten.Nodup
  ne : ∀ C ∈ R, C ≠ []
  step : ∀ C ∈ R, ∀ k, k < C.length → nx (nthP C k) = nthP C ((k + 1) % C.length)
  small : ∀ p ∈ R.flatten, smallP p
/-- D is C, begun elsewhere. -/
def Rot (C D : List Pt) : Prop := ∃ s, s < C.length ∧ D.length = C.length ∧ ∀ k, k < C.length → nthP D k = nthP C ((s + k) % C.length)
def leftM (nx : Pt → Pt) (R : List (List Pt)) (p : Pt) : Option Value := if p ∈ R.flatten then some (vP (nx p)) else none
def midM (nx : Pt → Pt) (R : List (List Pt)) (D : List Pt) (i : Nat) (p : Pt) : Option Value := if p ∈ R.flatten ∧ p ∉ D.take i then some (vP (nx p)) else none
theorem nthP_mem {l : List Pt} {k : Nat} (h : k < l.length) : nthP l k ∈ l := by
  rw [nthP_get (List.getElem?_eq_getElem h)]
  exact List.getElem_mem h
theorem nthP_getElem {l : List Pt} {k : Nat} (h : k < l.length) : nthP l k = l[k] := nthP_get (List.getElem?_eq_getElem h)
theorem nd_inj {l : List Pt} (h : l.Nodup) {i j : Nat} (hi : i < l.length) (hj : j < l.length) (e : l[i] = l[j]) : i = j := by
  have hp := List.pairwise_iff_getElem.1 h
  rcases Nat.lt_trichotomy i j with hlt | heq | hgt
  · exact absurd e (hp i j hi hj hlt)
  · exact heq
  · exact absurd e.symm (hp j i hj hi hgt)
theorem erase_perm {R : List (List Pt)} {C : List Pt} (hC : C ∈ R) : R.flatten.Perm (C ++ (R.erase C).flatten) := (List.perm_cons_erase hC).flatten
theorem Cyc.cnodup {nx : Pt → Pt} {R : List (List Pt)} (h : Cyc nx R) {C : List Pt} (hC : C ∈ R) : C.Nodup :=
  (List.nodup_append.1 ((erase_perm hC).nodup_iff.1 h.nodup)).1
theorem Cyc.erase {nx : Pt → Pt} {R : List (List Pt)} (h : Cyc nx R) {C : List Pt} (hC : C ∈ R) : Cyc nx (R.erase C) := by
  have hs : (R.erase C).Sublist R := List.erase_sublist
  have hnd := List.nodup_append.1 ((erase_perm hC).nodup_iff.1 h.nodup)
  refine ⟨hnd.2.1, fun D hD => h.ne D (hs.subset hD), fun D hD => h.step D (hs.subset hD), fun p hp => h.small p ((erase_perm hC).mem_iff.2 (List.mem_append.2 (.inr hp)))⟩
/-- From a point of a cycle on. -/
theorem rot_at {C : List Pt} {p : Pt} (hp : p ∈ C) : ∃ D, Rot C D ∧ nthP D 0 = p := by
  obtain ⟨s, hs, rfl⟩ := List.getElem_of_mem hp
  refine ⟨(List.range C.length).map fun k => nthP C ((s + k) % C.length), ⟨s, hs, by simp, fun k hk => ?_⟩, ?_⟩
  · rw [nthP_getElem (by simpa using hk)]
    simp
  · rw [nthP_getElem (by simp; omega)]
    simp only [List.getElem_map, List.getElem_range, Nat.add_zero]
    rw [Nat.mod_eq_of_lt hs, nthP_getElem hs]
theorem Rot.mem {C D : List Pt} (h : Rot C D) (p : Pt) : p ∈ D ↔ p ∈ C := by
  obtain ⟨s, hs, hl, hk⟩ := h
  constructor
  · intro hp
    obtain ⟨k, hk1, rfl⟩ := List.getElem_of_mem hp
    rw [← nthP_getElem hk1, hk k (by omega)]
    exact nthP_mem (Nat.mod_lt _ (by omega))
  · intro hp
    obtain ⟨k, hk1, rfl⟩ := List.getElem_of_mem hp
    have hlt : (k + C.length - s) % C.length < C.length := Nat.mod_lt _ (by omega)
    have := hk ((k + C.length - s) % C.length) hlt
    rw [Nat.add_mod_mod, show s + (k + C.length - s) = k + C.length by omega, Nat.add_mod_right, Nat.mod_eq_of_lt hk1, nthP_getElem hk1] at this
    rw [← this]
    exact nthP_mem (by omega)
theorem Rot.step {nx : Pt → Pt} {C D : List Pt} (h : Rot C D) (hs : ∀ k, k < C.length → nx (nthP C k) = nthP C ((k + 1) % C.length)) {k : Nat} (hk : k < D.length) : nx (nthP D k) = nthP D ((k + 1) % D.length) := by
  obtain ⟨s, hs0, hl, hd⟩ := h
  have hp : 0 < C.length := by omega
  rw [hd k (by omega), hs _ (Nat.mod_lt _ hp), hd _ (by rw [hl]; exact Nat.mod_lt _ hp), hl]
  congr 1
  rw [Nat.mod_add_mod, Nat.add_mod_mod, Nat.add_assoc]
theorem Rot.nodup {C D : List Pt} (h : Rot C D) (hC : C.Nodup) : D.Nodup := by
  obtain ⟨s, hs, hl, hd⟩ := h
  refine List.pairwise_iff_getElem.2 fun i j hi hj hij e => ?_
  rw [← nthP_getElem hi, ← nthP_getElem hj, hd i (by omega), hd j (by omega), nthP_getElem (Nat.mod_lt _ (by omega)), nthP_getElem (Nat.mod_lt _ (by omega))] at e
  have := nd_inj hC _ _ e
  have h1 : (s + i) % C.length ≠ (s + j) % C.length := by
    intro h2
    have h3 : (s + i) % C.length = if s + i < C.length then s + i else s + i - C.length := by
      split
      · exact Nat.mod_eq_of_lt ‹_›
      · rw [Nat.mod_eq_sub_mod (by omega)]; exact Nat.mod_eq_of_lt (by omega)
    have h4 : (s + j) % C.length = if s + j < C.length then s + j else s + j - C.length := by
      split
      · exact Nat.mod_eq_of_lt ‹_›
      · rw [Nat.mod_eq_sub_mod (by omega)]; exact Nat.mod_eq_of_lt (by omega)
    rw [h3, h4] at h2
    split at h2 <;> split at h2 <;> omega
  exact h1 this
/-- What is left when a whole cycle is gone. -/
theorem mid_all {nx : Pt → Pt} {R : List (List Pt)} (h : Cyc nx R) {C D : List Pt} (hC : C ∈ R) (hD : Rot C D) (p : Pt) : midM nx R D D.length p = leftM nx (R.erase C) p := by
  unfold midM leftM
  have hperm : R.flatten.Perm (C ++ (R.erase C).flatten) := (List.perm_cons_erase hC).flatten
  have hnd := hperm.nodup_iff.1 h.nodup
  rw [List.nodup_append] at hnd
  have hiff : (p ∈ R.flatten ∧ p ∉ D.take D.length) ↔ p ∈ (R.erase C).flatten := by
    rw [List.take_length, hD.mem p, hperm.mem_iff, List.mem_append]
    constructor
    · rintro ⟨h1 | h1, h2⟩
      · exact absurd h1 h2
      · exact h1
    · intro h1
      exact ⟨.inr h1, fun h2 => hnd.2.2 p h2 p h1 rfl⟩
  by_cases hp : p ∈ (R.erase C).flatten
  · rw [if_pos hp, if_pos (hiff.2 hp)]
  · rw [if_neg hp, if_neg (fun h => hp (hiff.1 h))]
theorem mid_zero (nx : Pt → Pt) (R : List (List Pt)) (D : List Pt) (p : Pt) : leftM nx R p = midM nx R D 0 p := by
  unfold leftM midM
  simp
theorem mid_step (nx : Pt → Pt) (R : List (List Pt)) (D : List Pt) {i : Nat} (hi : i < D.length) (p : Pt) : (if p = nthP D i then none else midM nx R D i p) = midM nx R D (i + 1) p := by
  unfold midM
  have ht : D.take (i + 1) = D.take i ++ [nthP D i] := by
    rw [List.take_add_one, List.getElem?_eq_getElem hi, nthP_getElem hi]; rfl
  rw [ht]
  by_cases hp : p = nthP D i
  · rw [if_pos hp, if_neg (fun h => h.2 (by rw [hp]; simp))]
  · rw [if_neg hp]
    have : p ∈ D.take i ++ [nthP D i] ↔ p ∈ D.take i := by simp [hp]
    simp only [this]
theorem mid_at {nx : Pt → Pt} {R : List (List Pt)} {D : List Pt} (hD : D.Nodup) (hm : ∀ p ∈ D, p ∈ R.flatten) {i : Nat} (hi : i < D.length) : midM nx R D i (nthP D i) = some (vP (nx (nthP D i))) := by
  unfold midM
  rw [if_pos]
  refine ⟨hm _ (nthP_mem hi), fun h => ?_⟩
  obtain ⟨k, hk, e⟩ := List.getElem_of_mem h
  rw [List.length_take] at hk
  rw [List.getElem_take, nthP_getElem hi] at e
  have := nd_inj hD _ _ e
  omega
theorem mid_end {nx : Pt → Pt} {R : List (List Pt)} {D : List Pt} (h0 : 0 < D.length) : midM nx R D D.length (nthP D 0) = none := by
  unfold midM
  rw [if_neg]
  rintro ⟨_, h⟩
  rw [List.take_length] at h
  exact h (nthP_mem h0)
end Go.Proofs.Ytfljcgehhnmamaa
/- Layer 8: what holds in each of the 256 cells. No program. -/
namespace Go.Proofs.Ytfljcgehhnmamaa
def allL : Nat → List (List Bool)
  | 0 => [[]]
  | n + 1 => (allL n).flatMap fun l => [false :: l, true :: l]
theorem mem_allL : ∀ (n : Nat) (l : List Bool), l.length = n → l ∈ allL n
  | 0, l, h => by
    have : l = [] := List.length_eq_zero_iff.1 h
    subst this
    exact List.mem_singleton.2 rfl
  | n + 1, l, h => by
    cases l with
    | nil => simp at h
    | cons b l =>
      refine List.mem_flatMap.2 ⟨l, mem_allL n l (by simpa using h), ?_⟩
      cases b <;> simp
def smallB (p : Pt) : Bool := decide ((0 ≤ p.1 ∧ p.1 ≤ 2) ∧ (0 ≤ p.2.1 ∧ p.2.1 ≤ 2) ∧ (0 ≤ p.2.2 ∧ p.2.2 ≤ 2))
def chkS (l : List Bool) : Bool := chk l && (cyclesP (insL l)).flatten.all smallB && decide ((cyclesP (insL l)).flatten.length ≤ 24)
set_option maxRecDepth 100000 in
theorem chk_all : ((allL 8).all chkS) = true := by decide +kernel
/-- What a cell knows of its crossings. -/
structure CellC (l : List Bool) : Prop where
  keys : ((allJ (insL l)).map (·.1)).Nodup
  nodup : (cyclesP (insL l)).flatten.Nodup
  three : ∀ C ∈ cyclesP (insL l), 3 ≤ C.length
  step : ∀ C ∈ cyclesP (insL l), ∀ k, k < C.length → lk (allJ (insL l)) (nthP C k) = some (nthP C ((k + 1) % C.length))
  held : ∀ x ∈ allJ (insL l), x.1 ∈ (cyclesP (insL l)).flatten
  none_ : (l.contains true && l.contains false) = false → cyclesP (insL l) = []
  small : ∀ p ∈ (cyclesP (insL l)).flatten, smallP p
  few : (cyclesP (insL l)).flatten.length ≤ 24
theorem cellC (l : List Bool) (hl : l.length = 8) : CellC l := by
  have h := List.all_eq_true.1 chk_all l (mem_allL 8 l hl)
  unfold chkS chk at h
  simp only [Bool.and_eq_true, decide_eq_true_eq, List.all_eq_true, List.mem_range] at h
  obtain ⟨⟨⟨⟨⟨⟨⟨h1, h2⟩, h3⟩, h4⟩, h5⟩, h6⟩, h7⟩, h8⟩ := h
  refine ⟨h1, h2, h3, h4, h5, fun hu => ?_, fun p hp => ?_, h8⟩
  · rw [hu, Bool.false_or] at h6
    exact List.isEmpty_iff.1 h6
  · have := h7 p hp
    unfold smallB at this
    unfold smallP
    exact of_decide_eq_true this
/-- Where the way goes on from p. -/
def nxP (l : List Bool) (p : Pt) : Pt := (lk (allJ (insL l)) p).getD (0, 0, 0)
theorem cyc_of (l : List Bool) (hl : l.length = 8) : Cyc (nxP l) (cyclesP (insL l)) := by
  have h := cellC l hl
  refine ⟨h.nodup, fun C hC e => ?_, fun C hC k hk => ?_, h.small⟩
  · have := h.three C hC
    rw [e] at this
    simp at this
  · unfold nxP
    rw [h.step C hC k hk]; rfl
theorem left_of (l : List Bool) (hl : l.length = 8) (p : Pt) : leftM (nxP l) (cyclesP (insL l)) p = lkV (allJ (insL l)) p := by
  have h := cellC l hl
  unfold leftM
  by_cases hp : p ∈ (cyclesP (insL l)).flatten
  · rw [if_pos hp]
    obtain ⟨C, hC, hpC⟩ := List.mem_flatten.1 hp
    obtain ⟨k, hk, rfl⟩ := List.mem_iff_getElem.1 hpC
    have hs := h.step C hC k hk
    rw [nthP_getElem hk] at hs
    unfold nxP lkV
    rw [hs]; rfl
  · rw [if_neg hp]
    unfold lkV lk
    rw [List.find?_eq_none.2]
    · rfl
    · intro x hx hxe
      refine hp ?_
      rw [← of_decide_eq_true hxe]
      exact h.held x (List.mem_reverse.1 hx)
end Go.Proofs.Ytfljcgehhnmamaa
