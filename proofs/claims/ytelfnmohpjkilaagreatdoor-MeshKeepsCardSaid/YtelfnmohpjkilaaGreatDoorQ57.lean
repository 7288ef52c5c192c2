/- SetW VolD ShfQ PrtP WdH WdI WdJ Args4E VluW Shf0 Shf1 ShfW. -/
import Derived.WalkKit
import Derived.WalkSpells
import Derived.WalkLawsBesides
import Derived.Laws.OwnMore
import Derived.Deep.AppendLies
import Derived.Deep.Draws
import Derived.Maps.AppendAt
import Derived.OwnWalk
import Derived.Sort.Grow
import Derived.Shelf.GgSortFunc.RowK
import Derived.RangeFuncNested
import Derived.RangeFuncBox
import Derived.OrdersHeld
import Derived.OrdersIn
import Derived.RangeFuncCalls
import Derived.OwnWalkIn
import Derived.Test.YtelfnmohpjkilaaGreatDoorRows
import Derived.Carry
import Derived.OpenShut
import Derived.ProofKit
import Derived.ChangeSame
import Derived.Handy
import Derived.Deep.Slices
import Derived.Test.YtelfnmohpjkilaaGreatDoorProg
import Derived.Deep.QuietTactic
import Derived.BigQuiet
import Derived.LoopN
import Derived.Laws.EntriesVeiled
import Derived.Shelf.SlSortCmp.QuietGrown
import Derived.Deep.RegionHeld3
import Derived.Deep.DrawnRows
import Derived.Sort.Statements
import Derived.Shelf.SlSortCmp.NoneTotal
import Derived.Maps.Own
import Derived.Maps.Views
import Derived.DeepKeys4
import Derived.DeepKeys
import Derived.Laws.StructEq
import Derived.Deep.CutBlock
import Derived.Deep.DeepCutAuto
import Derived.StillTailTactics
import Derived.IntWalk
import Derived.Deep.WholeRow
import Derived.Great.BuildSlice
import Derived.Great.Walk
import Derived.Laws.IdiomStrings
import Derived.Maps.OwnSet
import Derived.Maps.RangeWalk
import Derived.Deep.MidRow
import Derived.Shelf.RegionOpen
import Derived.Lib.Strings
import Derived.Lib.Slices
import Derived.Lib.Walk
import Derived.Lib.TrimByte
import Derived.Laws.Strings3
import Derived.Laws.Bits64b
import Derived.Laws.BytesArg
import Derived.RangeFuncBound
import Derived.RangeFuncLeaves
import Derived.TacticsInMore
import Derived.LoopNIn
import Derived.LoopIn
import Derived.WideKeyEntry
import Derived.Test.YtelfnmohpjkilaaGreatDoorQ36
import Derived.Test.YtelfnmohpjkilaaGreatDoorQ37
import Derived.Test.YtelfnmohpjkilaaGreatDoorQ47
import Derived.Test.YtelfnmohpjkilaaGreatDoorQ51
import Derived.Test.YtelfnmohpjkilaaGreatDoorQ53
import Derived.Test.YtelfnmohpjkilaaGreatDoorQ58
namespace Go.Proofs.YtelfnmohpjkilaaGreatDoor
open Go.RowKit Go.Sort
theorem setW_below {n g : Nat} {w0 : World} (hg : n ≤ g) : ∀ (vs : List Value) (w : World) (o : Nat), Below n w0 w → Below n w0 (setW w g o vs)
  | [], _, _, h => h
  | v :: vs, _, _, h => setW_below hg vs _ _ (h.setCell hg v)
end Go.Proofs.YtelfnmohpjkilaaGreatDoor
namespace Go.Proofs.YtelfnmohpjkilaaGreatDoor
def detP (p q r : Pt) : Int := p.1 * (q.2.1 * r.2.2 - q.2.2 * r.2.1) + p.2.1 * (q.2.2 * r.1 - q.1 * r.2.2) + p.2.2 * (q.1 * r.2.1 - q.2.1 * r.1)
def detT (t : Tri) : Int := detP t.1 t.2.1 t.2.2
def volP (C : List Tri) : Int := (C.map detT).foldl (· + ·) 0
theorem volP_snoc (C : List Tri) (t : Tri) : volP (C ++ [t]) = volP C + detT t := by
  unfold volP
  rw [List.map_append, List.foldl_append]
  rfl
theorem volP_take {C : List Tri} {k : Nat} {t : Tri} (h : C[k]? = some t) : volP (C.take (k + 1)) = volP (C.take k) + detT t := by
  rw [List.take_add_one, h, Option.toList_some, volP_snoc]
theorem foldl_addI (l : List Int) (a : Int) : l.foldl (· + ·) a = a + l.foldl (· + ·) 0 := by
  induction l generalizing a with
  | nil => simp
  | cons x l ih =>
    rw [List.foldl_cons, List.foldl_cons, ih (a + x), ih (0 + x)]
    omega
theorem volP_cons (t : Tri) (C : List Tri) : volP (t :: C) = detT t + volP C := by
  unfold volP
  rw [List.map_cons, List.foldl_cons, foldl_addI]
  omega
theorem volP_append (A B : List Tri) : volP (A ++ B) = volP A + volP B := by
  induction A with
  | nil => simp [volP]
  | cons t A ih => rw [List.cons_append, volP_cons, volP_cons, ih]; omega
theorem volP_perm {A B : List Tri} (h : A.Perm B) : volP A = volP B := by
  induction h with
  | nil => rfl
  | cons x _ ih => rw [volP_cons, volP_cons, ih]
  | swap x y l => rw [volP_cons, volP_cons, volP_cons, volP_cons]; omega
  | trans _ _ a b => exact a.trans b
end Go.Proofs.YtelfnmohpjkilaaGreatDoor
namespace Go.Proofs.YtelfnmohpjkilaaGreatDoor
open Go.RowKit Go.Sort
/-- One but for order and first corners. -/
def ShfR (s t : List Tri) : Prop := (tripP s).Perm (tripP t) ∧ (t.any flatT = false → (s.map rotT).Perm (t.map rotT))
theorem ShfR.refl (t : List Tri) : ShfR t t := ⟨List.Perm.refl _, fun _ => List.Perm.refl _⟩
theorem ShfR.perm {s s' t : List Tri} (h : ShfR s t) (hp : s'.Perm s) : ShfR s' t :=
  ⟨(hp.flatMap_right tri3).trans h.1, fun hf => (hp.map rotT).trans (h.2 hf)⟩
theorem swap_perm4' {L : List Tri} {k j : Nat} (hk : k < L.length) (hj : j < L.length) : ((L.set k L[j]).set j L[k]).Perm L := by
  refine List.perm_iff_count.2 fun x => ?_
  by_cases hkj : k = j
  · subst hkj
    simp
  · rw [List.count_set (by simpa using hj), List.count_set hk, List.getElem_set_ne hkj]
    have h1 : L[k] ∈ L := List.getElem_mem hk
    have h2 : L[j] ∈ L := List.getElem_mem hj
    have c1 := List.count_pos_iff.2 h1
    have c2 := List.count_pos_iff.2 h2
    by_cases e1 : L[k] = x <;> by_cases e2 : L[j] = x <;> simp [e1, e2] <;> (try subst e1) <;> (try subst e2) <;> omega
theorem swap_perm4 {L : List Tri} {k j : Nat} {x y : Tri} (hx : L[k]? = some x) (hy : L[j]? = some y) : ((L.set k y).set j x).Perm L := by
  obtain ⟨hk, ek⟩ := List.getElem?_eq_some_iff.1 hx
  obtain ⟨hj, ej⟩ := List.getElem?_eq_some_iff.1 hy
  subst ek
  subst ej
  exact swap_perm4' hk hj
theorem set_split {L : List Tri} {k : Nat} {x : Tri} (hx : L[k]? = some x) (y : Tri) : L = L.take k ++ x :: L.drop (k + 1) ∧ L.set k y = L.take k ++ y :: L.drop (k + 1) := by
  obtain ⟨hk, ek⟩ := List.getElem?_eq_some_iff.1 hx
  refine ⟨?_, List.set_eq_take_append_cons_drop.trans (if_pos hk)⟩
  conv => lhs; rw [← List.take_append_drop k L, List.drop_eq_getElem_cons hk, ek]
theorem ShfR.turn {s t : List Tri} {k : Nat} {x y : Tri} (h : ShfR s t) (hx : s[k]? = some x) (hy : y ∈ tri3 x) : ShfR (s.set k y) t := by
  obtain ⟨e1, e2⟩ := set_split hx y
  constructor
  · refine List.Perm.trans ?_ h.1
    rw [e2]
    conv => rhs; rw [e1]
    unfold tripP
    rw [List.flatMap_append, List.flatMap_append, List.flatMap_cons, List.flatMap_cons]
    exact List.Perm.append_left _ ((tri3_self hy).append_right _)
  · intro hf
    have hfs : s.any flatT = false := by rw [flat_perm h.1]; exact hf
    have hd : distT4 x := distT4_iff.1 (by
      have := List.any_eq_false.1 hfs x (List.mem_of_getElem? hx)
      simpa using this)
    have : (s.set k y).map rotT = s.map rotT := by
      rw [e2]
      conv => rhs; rw [e1]
      rw [List.map_append, List.map_append, List.map_cons, List.map_cons, rotT_tri3 hd hy]
    rw [this]; exact h.2 hf
theorem ShfR.canon {s t : List Tri} (h : ShfR s t) (hf : t.any flatT = false) : canonO s = canonO t := tot_T.sort_perm (h.2 hf)
end Go.Proofs.YtelfnmohpjkilaaGreatDoor
namespace Go.Proofs.YtelfnmohpjkilaaGreatDoor
open Go.RowKit Go.Sort
theorem near_turn {x y x' y' : Tri} (hx : x' ∈ tri3 x) (hy : y' ∈ tri3 y) (h : ∃ e ∈ edges3 x, swapE e ∈ edges3 y) : nearT x' y' = true := by
  obtain ⟨e, h1, h2⟩ := h
  refine nearT_iff.2 (.inl ⟨e, ?_, ?_⟩)
  · have := ((tri3_self hx).map edOf).mem_iff (a := e)
    exact this.2 h1
  · have := ((tri3_self hy).map edOf).mem_iff (a := swapE e)
    exact this.2 h2
theorem flat_shares {x : Tri} (h : ¬ distT4 x) : ∃ e ∈ edges3 x, swapE e ∈ edges3 x := by
  have : flatT x = true := by
    cases hf : flatT x with
    | true => rfl
    | false => exact absurd (distT4_iff.1 hf) h
  obtain ⟨a, b, c⟩ := x
  simp only [flatT, Bool.or_eq_true, decide_eq_true_eq] at this
  rcases this with (rfl | rfl) | rfl
  · exact ⟨(a, a), by simp [edges3], by simp [edges3, swapE]⟩
  · exact ⟨(b, b), by simp [edges3], by simp [edges3, swapE]⟩
  · exact ⟨(c, c), by simp [edges3], by simp [edges3, swapE]⟩
/-- A triangle of the other list for each one. -/
def Turned4 (c d : List Tri) : Prop := (∀ x ∈ c, rotT x = x) ∧ ∀ x ∈ c, ∃ y ∈ d, y ∈ tri3 x
theorem Turned4.near {d : List Tri} (hd : ∀ x ∈ d, rotT x = x) {x y x' y' : Tri} (hx : x' ∈ d) (hy : y' ∈ d) (hxx : x' ∈ tri3 x) (hyy : y' ∈ tri3 y) (h : nearT x y = true) : nearT x' y' = true := by
  rcases nearT_iff.1 h with h | rfl
  · exact near_turn hxx hyy h
  · by_cases hx4 : distT4 x
    · have h1 := rotT_tri3 hx4 hxx
      have h2 := rotT_tri3 hx4 hyy
      rw [hd _ hx] at h1
      rw [hd _ hy] at h2
      rw [h1, h2]; exact nearT_self _
    · exact near_turn hxx hyy (flat_shares hx4)
theorem Turned4.eqv {c d : List Tri} (h : Turned4 c d) (hd : ∀ x ∈ d, rotT x = x) {i j : Nat} (he : Eqv (nearI c) i j) :
    i = j ∨ (∃ x y, c[i]? = some x ∧ c[j]? = some y ∧ ∀ i' j' x' y', d[i']? = some x' → d[j']? = some y' → x' ∈ tri3 x → y' ∈ tri3 y → Eqv (nearI d) i' j') := by
  refine he (fun i j => i = j ∨ (∃ x y, c[i]? = some x ∧ c[j]? = some y ∧ ∀ i' j' x' y', d[i']? = some x' → d[j']? = some y' → x' ∈ tri3 x → y' ∈ tri3 y → Eqv (nearI d) i' j')) ?_ ?_ ?_ ?_
  · exact fun a => .inl rfl
  · rintro a b (rfl | ⟨x, y, h1, h2, h3⟩)
    · exact .inl rfl
    · exact .inr ⟨y, x, h2, h1, fun i' j' x' y' h4 h5 h6 h7 => (h3 j' i' y' x' h5 h4 h7 h6).symm⟩
  · rintro a b e (rfl | ⟨x, y, h1, h2, h3⟩) (rfl | ⟨y2, z, h4, h5, h6⟩)
    · exact .inl rfl
    · exact .inr ⟨y2, z, h4, h5, h6⟩
    · exact .inr ⟨x, y, h1, h2, h3⟩
    · rw [h2] at h4; cases h4
      obtain ⟨y', hy1, hy2⟩ := h.2 y (List.mem_of_getElem? h2)
      obtain ⟨k, hk⟩ := List.mem_iff_getElem?.1 hy1
      exact .inr ⟨x, z, h1, h5, fun i' j' x' z' h7 h8 h9 h10 => (h3 i' k x' y' h7 hk h9 hy2).trans (h6 k j' y' z' hk h8 hy2 h10)⟩
  · rintro a b ⟨x, y, h1, h2, h3⟩
    exact .inr ⟨x, y, h1, h2, fun i' j' x' y' h4 h5 h6 h7 => Eqv.of ⟨x', y', h4, h5, Turned4.near hd (List.mem_of_getElem? h4) (List.mem_of_getElem? h5) h6 h7 h3⟩⟩
theorem nodup_sub_len4 {α : Type} : ∀ {A B : List α}, A.Nodup → (∀ a ∈ A, a ∈ B) → A.length ≤ B.length
  | [], B, _, _ => by simp
  | a :: A, B, hn, h => by
    obtain ⟨s, t, rfl⟩ := List.append_of_mem (h a (List.mem_cons_self ..))
    obtain ⟨ha, hA⟩ := List.nodup_cons.1 hn
    have := nodup_sub_len4 (A := A) (B := s ++ t) hA fun x hx => by
      have h1 := h x (List.mem_cons_of_mem _ hx)
      rw [List.mem_append, List.mem_cons] at h1
      rw [List.mem_append]
      rcases h1 with h1 | rfl | h1
      · exact .inl h1
      · exact absurd hx ha
      · exact .inr h1
    rw [List.length_cons, List.length_append, List.length_cons]
    rw [List.length_append] at this
    omega
theorem Turned4.heads {c d : List Tri} {S T : Nat → Nat → Bool} (h : Turned4 c d) (k : Turned4 d c) (hS : ClsS c S) (hT : ClsS d T) : (headsI S c.length).length ≤ (headsI T d.length).length := by
  have pick : ∀ a : Nat, ∃ b : Nat, a ∈ headsI S c.length → b ∈ headsI T d.length ∧ ∃ x j y, c[a]? = some x ∧ d[j]? = some y ∧ y ∈ tri3 x ∧ Eqv (nearI d) b j := fun a => by
    by_cases ha : a ∈ headsI S c.length
    · obtain ⟨h1, h2⟩ := headsI_mem.1 ha
      obtain ⟨x, hx⟩ : ∃ x, c[a]? = some x := ⟨_, List.getElem?_eq_getElem h1⟩
      obtain ⟨y, hy1, hy2⟩ := h.2 x (List.mem_of_getElem? hx)
      obtain ⟨j, hj⟩ := List.mem_iff_getElem?.1 hy1
      obtain ⟨b, hb1, hb2, hb3⟩ := head_of hT.eqB j
      obtain ⟨hjl, _⟩ := List.getElem?_eq_some_iff.1 hj
      exact ⟨b, fun _ => ⟨headsI_mem.2 ⟨by omega, hb2⟩, x, j, y, hx, hj, hy2, (hT b j).1 hb3⟩⟩
    · exact ⟨0, fun h => absurd h ha⟩
  obtain ⟨f, hf⟩ := Classical.axiomOfChoice pick
  have hinj : ((headsI S c.length).map f).Nodup := by
    have hnd : (headsI S c.length).Nodup := List.nodup_range.filter _
    refine List.pairwise_map.2 (List.Pairwise.imp_of_mem ?_ hnd)
    intro a b ha hb hab e
    obtain ⟨h1, x, j, y, h2, h3, h4, h5⟩ := hf a ha
    obtain ⟨g1, x2, j2, y2, g2, g3, g4, g5⟩ := hf b hb
    rw [e] at h5
    have h6 : Eqv (nearI d) j j2 := h5.symm.trans g5
    have hback : ∀ {u v : Tri}, v ∈ tri3 u → u ∈ tri3 v := fun {u v} hv => by
      have := (tri3_self hv).mem_iff (a := u)
      exact this.2 (by simp [tri3])
    have h7 : Eqv (nearI c) a b := by
      rcases k.eqv h.1 h6 with rfl | ⟨u, v, h7, h8, h9⟩
      · rw [h3] at g3; cases g3
        by_cases hx4 : distT4 y
        · have e1 := rotT_tri3 hx4 (hback h4)
          have e2 := rotT_tri3 hx4 (hback g4)
          rw [h.1 _ (List.mem_of_getElem? h2)] at e1
          rw [h.1 _ (List.mem_of_getElem? g2)] at e2
          exact Eqv.of ⟨x, x2, h2, g2, by rw [e1, e2]; exact nearT_self _⟩
        · exact Eqv.of ⟨x, x2, h2, g2, near_turn (hback h4) (hback g4) (flat_shares hx4)⟩
      · rw [h3] at h7; cases h7
        rw [g3] at h8; cases h8
        exact h9 a b x x2 h2 g2 (hback h4) (hback g4)
    exact hab (head_one hS.eqB (headsI_mem.1 ha).2 (headsI_mem.1 hb).2 ((hS a b).2 h7))
  have := nodup_sub_len4 hinj (B := headsI T d.length) fun b hb => by
    obtain ⟨a, ha, rfl⟩ := List.mem_map.1 hb
    exact (hf a ha).1
  rwa [List.length_map] at this
theorem canon_turned {s t : List Tri} (h : (tripP s).Perm (tripP t)) : Turned4 (canonO s) (canonO t) := by
  have hp : ∀ u : List Tri, (canonO u).Perm (u.map rotT) := fun u => sortO_perm (lt := ltT) (u.map rotT)
  have hrot : ∀ x : Tri, rotT x ∈ tri3 x := fun x => by
    rcases rotT_cases4 x with e | e | e <;> rw [e] <;> simp [tri3, cyc3]
  constructor
  · intro x hx
    obtain ⟨y, _, rfl⟩ := List.mem_map.1 ((hp s).mem_iff.1 hx)
    exact rotT_idem4 y
  · intro x hx
    obtain ⟨y, hy, rfl⟩ := List.mem_map.1 ((hp s).mem_iff.1 hx)
    have h1 : y ∈ tripP t := h.mem_iff.1 (List.mem_flatMap.2 ⟨y, hy, by simp [tri3]⟩)
    obtain ⟨z, hz, hyz⟩ := List.mem_flatMap.1 h1
    refine ⟨rotT z, (hp t).mem_iff.2 (List.mem_map.2 ⟨z, hz, rfl⟩), ?_⟩
    have h2 := (tri3_self hyz).trans (tri3_self (hrot z)).symm
    have h3 := h2.trans (List.Perm.refl (tri3 (rotT z)))
    have h4 : rotT z ∈ tri3 y := h3.mem_iff.2 (by simp [tri3])
    exact (tri3_self (hrot y)).mem_iff.2 h4
theorem parts_count {s t : List Tri} (h : (tripP s).Perm (tripP t)) {S T : Nat → Nat → Bool} (hS : ClsS (canonO s) S) (hT : ClsS (canonO t) T) : (headsI S (canonO s).length).length = (headsI T (canonO t).length).length :=
  Nat.le_antisymm ((canon_turned h).heads (canon_turned h.symm) hS hT) ((canon_turned h.symm).heads (canon_turned h) hT hS)
end Go.Proofs.YtelfnmohpjkilaaGreatDoor
namespace Go.Proofs.YtelfnmohpjkilaaGreatDoor
open Go.RowKit Go.Sort
theorem fits_abs {a : Int} (h : fits a) : a.natAbs ≤ 9223372036854775808 := by
  unfold fits at h; omega
theorem mul_absI {a b : Int} {A B : Nat} (ha : a.natAbs ≤ A) (hb : b.natAbs ≤ B) : (a * b).natAbs ≤ A * B := by
  rw [Int.natAbs_mul]; exact Nat.mul_le_mul ha hb
end Go.Proofs.YtelfnmohpjkilaaGreatDoor
namespace Go.Proofs.YtelfnmohpjkilaaGreatDoor
open Go.RowKit Go.Sort
def minZ (a b c d : Int) : Int := a * b - c * d
theorem sub_absI {x y : Int} {A B : Nat} (hx : x.natAbs ≤ A) (hy : y.natAbs ≤ B) : (x - y).natAbs ≤ A + B := by omega
theorem add_absI {x y : Int} {A B : Nat} (hx : x.natAbs ≤ A) (hy : y.natAbs ≤ B) : (x + y).natAbs ≤ A + B := by omega
theorem minZ_abs {a b c d : Int} (ha : fits a) (hb : fits b) (hc : fits c) (hd : fits d) : (minZ a b c d).natAbs ≤ 170141183460469231731687303715884105728 :=
  Nat.le_trans (sub_absI (mul_absI (fits_abs ha) (fits_abs hb)) (mul_absI (fits_abs hc) (fits_abs hd))) (by decide)
theorem mulZ_abs {a x : Int} (ha : fits a) (hx : x.natAbs ≤ 170141183460469231731687303715884105728) : (a * x).natAbs ≤ 1569275433846670190958947355801916604025588861116008628224 :=
  Nat.le_trans (mul_absI (fits_abs ha) hx) (by decide)
end Go.Proofs.YtelfnmohpjkilaaGreatDoor
namespace Go.Proofs.YtelfnmohpjkilaaGreatDoor
open Go.RowKit Go.Sort
theorem detT_absI {t : Tri} (h : fitsT t) : (detT t).natAbs ≤ 4707826301540010572876842067405749812076766583348025884672 := by
  obtain ⟨⟨a1, a2, a3⟩, ⟨b1, b2, b3⟩, c1, c2, c3⟩ := h
  unfold detT detP
  exact Nat.le_trans (add_absI (add_absI (mulZ_abs a1 (minZ_abs b2 c3 b3 c2)) (mulZ_abs a2 (minZ_abs b3 c1 b1 c3))) (mulZ_abs a3 (minZ_abs b1 c2 b2 c1))) (by decide)
theorem volP_absI {C : List Tri} (h : ∀ t ∈ C, fitsT t) : ∀ k, k ≤ C.length → (volP (C.take k)).natAbs ≤ k * 4707826301540010572876842067405749812076766583348025884672
  | 0, _ => by simp [volP]
  | k + 1, hk => by
    have ih := volP_absI h k (by omega)
    have ht : C[k]? = some C[k] := List.getElem?_eq_getElem hk
    rw [volP_take ht]
    have h1 := detT_absI (h _ (List.getElem_mem hk))
    omega
end Go.Proofs.YtelfnmohpjkilaaGreatDoor
namespace Go.Proofs.YtelfnmohpjkilaaGreatDoor
open Go.ChangeShapes Go.WideShapes Go.ChangeAt Go.RowKit Go.Deep
set_option maxRecDepth 100000 in
theorem open_byte4 {H : Type} {enc : TypeId × Value → H} {W : World} {sp : Nat → Bool} {n : Nat} {cs : List Value} {x : DataW H × List MemPlace} (h : DataW.trod enc Tryz.prog W 0 sp true n 5 cs = some x) (hl : cs.length = 1) : ∃ t : Nat, cs = encB t ∧ t < 256 := by
  match cs, hl with
  | [a], _ =>
    obtain ⟨n, e, _, w⟩ := DataW.trod_int Tryz.underlying5 h
    injection e with e
    simp [Lit.wf, IntKind.min, IntKind.max, IntKind.signed, IntKind.bits] at w
    refine ⟨n.toNat, ?_, by omega⟩
    rw [e]
    unfold encB
    rw [Int.toNat_of_nonneg (by omega)]
set_option maxRecDepth 100000 in
theorem open_bytes4 {H : Type} {enc : TypeId × Value → H} {W : World} {r : Reach} {b0 : Nat} {v : Value} {d : DataW H} {ps : List MemPlace} (hv : Value.okWide Tryz.prog W r b0 59 v) (h : DataW.Trod enc Tryz.prog W 0 (fun _ => true) true 59 v d ps) :
    ∃ A c ns, v = .slice A ns.length c ∧ (ns ≠ [] → Sl encB 1 W W.heap.size A ns) ∧ (∀ t ∈ ns, t < 256) ∧ ns.length ≤ c ∧ ns.length ≤ 9223372036854775807 := by
  obtain ⟨a0, len, cap, rfl⟩ := okWide_slice Tryz.underlying59 hv
  obtain ⟨fuel, hf⟩ := h
  exact open_rows5 (good := fun t : Nat => t < 256) Tryz.underlying59 (E := 5) (k := 1) (by kernel_rfl) (by omega) encB_len (fun _ _ _ h hl => open_byte4 h hl) hf
end Go.Proofs.YtelfnmohpjkilaaGreatDoor
namespace Go.Proofs.YtelfnmohpjkilaaGreatDoor
open Go.RowKit Go.Sort
theorem vol6_P (l : List Tri) : vol6 l = volP l := by
  induction l with
  | nil => rfl
  | cons t l ih =>
    rw [vol6, volP_cons, ih]
    congr 1
    unfold detV detT detP
    grind
theorem wideN_size5 {b : Bool} {s : ByteArray} {x : Int} (h : WideN (.agg #[.bool b, .string s]) x) (hx : x.natAbs < 256 ^ 100) : s.size ≤ maxLen := by
  obtain ⟨neg, l, e, _, tl, hl, _⟩ := h
  simp [nvalV] at e
  obtain ⟨_, rfl⟩ := e
  rw [hl, intG_abs] at hx
  have := g_len tl hx
  rw [strL_size, List.length_reverse]
  unfold maxLen
  omega
theorem vol_small {L : List Tri} (hf : ∀ t ∈ L, fitsT t) (hl : L.length ≤ 1000) : (vol6 L).natAbs < 256 ^ 100 := by
  rw [vol6_P]
  have h := volP_absI hf L.length (Nat.le_refl _)
  rw [List.take_length] at h
  omega
theorem wide_pair {b c : Bool} {s u : ByteArray} {x : Int} (h : WideN (.agg #[.bool b, .string s]) x) (k : WideN (.agg #[.bool c, .string u]) x) : b = c ∧ s = u := by
  have := h.uniq k
  simpa using this
theorem vol_p {L : List Tri} (hf : ∀ t ∈ L, fitsT t) (hl : L.length ≤ 1000) (A : Option Addr) (c : Nat) (W : World) (hs : Sl encT 9 W W.heap.size A L) :
    Calls Tryz.prog 26 #[.slice A L.length c] W fun e w' => ∃ b s, e = .returned (.agg #[.bool b, .string s]) ∧ WideN (.agg #[.bool b, .string s]) (vol6 L) ∧ Below W.heap.size W w' := by
  refine (volume4_any A c L W hs (by omega) hf).mono ?_
  rintro e w' ⟨v, rfl, hv, hB⟩
  obtain ⟨b, s, rfl⟩ := hv.form
  exact ⟨b, s, rfl, hv, hB⟩
end Go.Proofs.YtelfnmohpjkilaaGreatDoor
namespace Go.Proofs.YtelfnmohpjkilaaGreatDoor
open Go.RowKit Go.Sort
set_option maxRecDepth 10000 in
theorem shuf_act8 (x0 x1 x2 x3 x4 x5 x6 x7 x8 x9 x10 x11 x12 x13 x14 x15 x16 x17 x18 x19 x20 x21 x22 x23 x24 x25 x26 x27 x28 x29 x30 x31 x32 x33 x34 x35 x36 x37 x38 x39 x40 x41 x42 x43 x44 x45 x46 x47 x48 x49 x50 x51 x52 x53 x54 x55 x56 x57 x58 x59 x60 x61 x62 x63 x64 x65 x66 x67 x68 x69 x70 x71 x72 x73 x74 x75 x76 x77 x78 x79 x80 x81 x82 x83 x84 x85 x86 x87 x88 x89 x90 x91 x92 x93 x94 x95 x96 x97 x98 x99 x100 x101 x102 x103 x104 x105 x106 x107 x108 x109 x110 x111 x112 x113 x114 x115 x116 x117 x118 x119 x120 x121 x122 x123 x124 x125 x126 x127 x128 x129 x130 x131 x132 x133 x134 x135 x136 x137 x138 x139 x140 x141 x142 x143 x144 x145 x146 x147 x148 x149 x150 x151 x152 x153 x154 x155 x156 x157 x158 x159 x160 x161 x162 x163 x164 x165 x166 x167 x168 x169 x170 x171 x172 x173 x174 x175 x176 : Value) (d : _) (vals : Nat → Value) : actL [(0, 45), (1, 46), (2, 47), (3, 48), (4, 49), (5, 50), (6, 51), (7, 52), (8, 53), (9, 54), (10, 55), (11, 56), (12, 57), (14, 58)] { tmps := #[x0, x1, x2, x3, x4, x5, x6, x7, x8, x9, x10, x11, x12, x13, x14, x15, x16, x17, x18, x19, x20, x21, x22, x23, x24, x25, x26, x27, x28, x29, x30, x31, x32, x33, x34, x35, x36, x37, x38, x39, x40, x41, x42, x43, x44, x45, x46, x47, x48, x49, x50, x51, x52, x53, x54, x55, x56, x57, x58, x59, x60, x61, x62, x63, x64, x65, x66, x67, x68, x69, x70, x71, x72, x73, x74, x75, x76, x77, x78, x79, x80, x81, x82, x83, x84, x85, x86, x87, x88, x89, x90, x91, x92, x93, x94, x95, x96, x97, x98, x99, x100, x101, x102, x103, x104, x105, x106, x107, x108, x109, x110, x111, x112, x113, x114, x115, x116, x117, x118, x119, x120, x121, x122, x123, x124, x125, x126, x127, x128, x129, x130, x131, x132, x133, x134, x135, x136, x137, x138, x139, x140, x141, x142, x143, x144, x145, x146, x147, x148, x149, x150, x151, x152, x153, x154, x155, x156, x157, x158, x159, x160, x161, x162, x163, x164, x165, x166, x167, x168, x169, x170, x171, x172, x173, x174, x175, x176], defers := d } vals = { tmps := #[x0, x1, x2, x3, x4, x5, x6, x7, x8, x9, x10, x11, x12, x13, x14, x15, x16, x17, x18, x19, x20, x21, x22, x23, x24, x25, x26, x27, x28, x29, x30, x31, x32, x33, x34, x35, x36, x37, x38, x39, x40, x41, x42, x43, x44, vals 0, vals 1, vals 2, vals 3, vals 4, vals 5, vals 6, vals 7, vals 8, vals 9, vals 10, vals 11, vals 12, vals 14, x59, x60, x61, x62, x63, x64, x65, x66, x67, x68, x69, x70, x71, x72, x73, x74, x75, x76, x77, x78, x79, x80, x81, x82, x83, x84, x85, x86, x87, x88, x89, x90, x91, x92, x93, x94, x95, x96, x97, x98, x99, x100, x101, x102, x103, x104, x105, x106, x107, x108, x109, x110, x111, x112, x113, x114, x115, x116, x117, x118, x119, x120, x121, x122, x123, x124, x125, x126, x127, x128, x129, x130, x131, x132, x133, x134, x135, x136, x137, x138, x139, x140, x141, x142, x143, x144, x145, x146, x147, x148, x149, x150, x151, x152, x153, x154, x155, x156, x157, x158, x159, x160, x161, x162, x163, x164, x165, x166, x167, x168, x169, x170, x171, x172, x173, x174, x175, x176], defers := d } := by kernel_rfl
def swEx (S a b p q : Value) (x y : Value) : Nat → Value
  | 0 => S | 1 => a | 2 => S | 3 => b | 4 => S | 5 => b | 6 => q | 7 => y | 8 => S | 9 => a | 10 => p | 11 => x | 12 => p | _ => q
structure SwI (W0 W1 W2 : World) (ex : Nat → Value) (L : Nat → Bool) (vals : Nat → Value) (V : World) : Prop where
  v : ∀ i, i ≠ 13 → i ≠ 15 → L i = true → vals i = ex i
  w0 : L 13 = false → V = W0
  w1 : L 13 = true → L 15 = false → V = W1
  w2 : L 15 = true → V = W2
  c : L 13 = true → L 7 = true ∧ L 11 = true
  d : L 15 = true → L 13 = true
theorem SwI.start (W0 W1 W2 : World) (ex : Nat → Value) : SwI W0 W1 W2 ex (fun _ => false) (fun _ => undef) W0 :=
  ⟨(fun _ _ _ h => nomatch h), (fun _ => rfl), (fun h => nomatch h), (fun h => nomatch h), (fun h => nomatch h), (fun h => nomatch h)⟩
theorem also_ne {L : Nat → Bool} {i j : Nat} (h : j ≠ i) : also L i j = L j := by unfold also; rw [if_neg h]
theorem also_eq {L : Nat → Bool} {i : Nat} : also L i i = true := by unfold also; rw [if_pos rfl]
theorem also_of {L : Nat → Bool} {i j : Nat} (h : L j = true) : also L i j = true := by unfold also; split; rfl; exact h
theorem SwI.quiet {W0 W1 W2 : World} {ex : Nat → Value} {L : Nat → Bool} {vals : Nat → Value} {V : World} (h : SwI W0 W1 W2 ex L vals V) (i : Nat) (h13 : i ≠ 13) (h15 : i ≠ 15) {v : Value} (hv : v = ex i) : SwI W0 W1 W2 ex (also L i) (withV vals i v) V := by
  have e13 : also L i 13 = L 13 := also_ne (Ne.symm h13)
  have e15 : also L i 15 = L 15 := also_ne (Ne.symm h15)
  refine ⟨fun j hj1 hj2 hl => ?_, fun hl => h.w0 (e13 ▸ hl), fun hl hk => h.w1 (e13 ▸ hl) (e15 ▸ hk), fun hl => h.w2 (e15 ▸ hl), fun hl => ?_, fun hl => ?_⟩
  · unfold withV
    by_cases hji : j = i
    · rw [if_pos hji, hji]; exact hv
    · rw [if_neg hji]
      rw [also_ne hji] at hl
      exact h.v j hj1 hj2 hl
  · rw [e13] at hl
    have := h.c hl
    exact ⟨also_of this.1, also_of this.2⟩
  · rw [e15] at hl
    rw [e13]
    exact h.d hl
theorem SwI.st1 {W0 W1 W2 : World} {ex : Nat → Value} {L : Nat → Bool} {vals : Nat → Value} {V : World} (h : SwI W0 W1 W2 ex L vals V) (hl : L 13 = false) (h7 : L 7 = true) (h11 : L 11 = true) (v : Value) : SwI W0 W1 W2 ex (also L 13) (withV vals 13 v) W1 := by
  have e15 : also L 13 15 = L 15 := also_ne (by decide)
  have hf : L 15 = false := by
    cases h15 : L 15 with
    | false => rfl
    | true => have := h.d h15; rw [hl] at this; cases this
  refine ⟨fun j hj1 hj2 hj => ?_, fun hk => ?_, fun _ _ => rfl, fun hk => ?_, fun _ => ⟨also_of h7, also_of h11⟩, fun _ => also_eq⟩
  · unfold withV
    rw [if_neg hj1]
    rw [also_ne hj1] at hj
    exact h.v j hj1 hj2 hj
  · rw [also_eq] at hk; cases hk
  · rw [e15, hf] at hk; cases hk
theorem SwI.st2 {W0 W1 W2 : World} {ex : Nat → Value} {L : Nat → Bool} {vals : Nat → Value} {V : World} (h : SwI W0 W1 W2 ex L vals V) (hl : L 13 = true) (v : Value) : SwI W0 W1 W2 ex (also L 15) (withV vals 15 v) W2 := by
  have e13 : also L 15 13 = L 13 := also_ne (by decide)
  refine ⟨fun j hj1 hj2 hj => ?_, fun hk => ?_, fun _ hk => ?_, fun _ => rfl, fun hk => ?_, fun _ => by rw [e13]; exact hl⟩
  · unfold withV
    rw [if_neg hj2]
    rw [also_ne hj2] at hj
    exact h.v j hj1 hj2 hj
  · rw [e13, hl] at hk; cases hk
  · rw [also_eq] at hk; cases hk
  · have := h.c hl
    exact ⟨also_of this.1, also_of this.2⟩
theorem setCells_eq (w : World) (g o : Nat) (vs : List Value) : w.setCells g o vs = setW w g o vs := by
  induction vs generalizing w o with
  | nil => rfl
  | cons v vs ih => exact ih _ _
theorem own_there {α : Type} {enc : α → List Value} {k : Nat} {e : TypeId} {w : World} {base n cap g i : Nat} {xs : List α} {x : α} (hk : ∀ x, (enc x).length = k) (h : Own enc k e w base (.slice (some ⟨g, 0, none⟩) n cap) n xs) (hx : xs[i]? = some x) : w.there g (i * k) k := by
  intro j hj
  obtain ⟨b, o, e1, _, hc⟩ := (h.sl hk (Nat.le_refl w.heap.size)).at hx
  cases e1
  have hu : (enc x)[j]? = some ((enc x)[j]'(by rw [hk]; exact hj)) := List.getElem?_eq_getElem _
  have h1 := hc j _ hu
  rw [Nat.zero_add] at h1
  obtain ⟨cs, hcs⟩ := h.cells g rfl
  exact ⟨by rw [h1]; rfl, Blk.frozen hcs _⟩
theorem setW_tri (w : World) (g o : Nat) (y : Tri) : setW w g o (encT y) = (((((((((w.setCell ⟨g, o, none⟩ (.int .i64 y.1.1)).setCell ⟨g, o + 1, none⟩ (.int .i64 y.1.2.1)).setCell ⟨g, o + 2, none⟩ (.int .i64 y.1.2.2)).setCell ⟨g, o + 3, none⟩ (.int .i64 y.2.1.1)).setCell ⟨g, o + 4, none⟩ (.int .i64 y.2.1.2.1)).setCell ⟨g, o + 5, none⟩ (.int .i64 y.2.1.2.2)).setCell ⟨g, o + 6, none⟩ (.int .i64 y.2.2.1)).setCell ⟨g, o + 7, none⟩ (.int .i64 y.2.2.2.1)).setCell ⟨g, o + 8, none⟩ (.int .i64 y.2.2.2.2)) := rfl
def cycN (t : Tri) (n : Nat) : Tri := (corner t (n % 3), corner t ((n + 1) % 3), corner t ((n + 2) % 3))
theorem cycN_0 (z : Tri) (n : Nat) (h : n % 3 = 0) : cycN z n = z := by
  unfold cycN
  rw [h, show (n + 1) % 3 = 1 by omega, show (n + 2) % 3 = 2 by omega]
  rfl
theorem cycN_1 (z : Tri) (n : Nat) (h : n % 3 = 1) : cycN z n = (z.2.1, z.2.2, z.1) := by
  unfold cycN
  rw [h, show (n + 1) % 3 = 2 by omega, show (n + 2) % 3 = 0 by omega]
  rfl
theorem cycN_2 (z : Tri) (n : Nat) (h : n % 3 = 2) : cycN z n = (z.2.2, z.1, z.2.1) := by
  unfold cycN
  rw [h, show (n + 1) % 3 = 0 by omega, show (n + 2) % 3 = 1 by omega]
  rfl
theorem cycN_mem (t : Tri) (n : Nat) : cycN t n ∈ tri3 t := by
  have hc : n % 3 = 0 ∨ n % 3 = 1 ∨ n % 3 = 2 := by omega
  rcases hc with h | h | h
  · rw [cycN_0 t n h]; simp [tri3]
  · rw [cycN_1 t n h]; simp [tri3]
  · rw [cycN_2 t n h]; simp [tri3]
theorem cycN_fits {t : Tri} (n : Nat) (h : fitsT t) : fitsT (cycN t n) := by
  have hc : n % 3 = 0 ∨ n % 3 = 1 ∨ n % 3 = 2 := by omega
  rcases hc with e | e | e
  · rw [cycN_0 t n e]; exact h
  · rw [cycN_1 t n e]; exact ⟨h.2.1, h.2.2, h.1⟩
  · rw [cycN_2 t n e]; exact ⟨h.2.2, h.1, h.2.1⟩
/-- One round of the shuffle. -/
theorem shuf_round {L T : List Tri} {k j n : Nat} {x y : Tri} (hk : L[k]? = some x) (hj : L[j]? = some y) (hp : ShfR L T) (hd : ∀ t ∈ L, fitsT t) :
    ∀ z, ((L.set k y).set j x)[k]? = some z → ShfR (((L.set k y).set j x).set k (cycN z n)) T ∧ ∀ t ∈ ((L.set k y).set j x).set k (cycN z n), fitsT t := by
  intro z hz
  have hM := swap_perm4 hk hj
  refine ⟨(hp.perm hM).turn hz (cycN_mem z n), fun t ht => ?_⟩
  rcases List.mem_or_eq_of_mem_set ht with h | rfl
  · exact hd t (hM.mem_iff.1 h)
  · exact cycN_fits n (hd z (hM.mem_iff.1 (List.mem_of_getElem? hz)))
theorem volP_tri3 (t : Tri) : volP (tri3 t) = 3 * detT t := by
  unfold tri3
  rw [volP_cons, volP_cons, volP_cons]
  have h0 : volP ([] : List Tri) = 0 := rfl
  rw [h0]
  unfold detT detP
  simp only
  grind
theorem volP_trip (l : List Tri) : volP (tripP l) = 3 * volP l := by
  unfold tripP
  induction l with
  | nil => rfl
  | cons t l ih =>
    rw [List.flatMap_cons, volP_append, ih, volP_cons, volP_tri3]
    omega
theorem vol6_shf {s t : List Tri} (h : (tripP s).Perm (tripP t)) : vol6 s = vol6 t := by
  have := volP_perm h
  rw [volP_trip, volP_trip] at this
  rw [vol6_P, vol6_P]
  omega
theorem check_flat {t : List Tri} (h : checkP t false ≠ 20) : t.any flatT = false := by
  cases hf : t.any flatT with
  | false => rfl
  | true => exact absurd (by unfold checkP; rw [if_pos hf]) h
/-- The parts of both: as many, and the same where no triangle is flat. -/
theorem parts_shf {s t : List Tri} (h : ShfR s t) (_hl : s.length ≤ 2147483648) (hfs : ∀ x ∈ s, fitsT x) (hft : ∀ x ∈ t, fitsT x) : ∃ S U, ClsS (canonO s) S ∧ ClsS (canonO t) U ∧ ∃ P Q, P = partsT (canonO s) S (canonO s).length ∧ Q = partsT (canonO t) U (canonO t).length ∧ P.length = Q.length ∧ P.length ≤ s.length ∧
    (t.any flatT = false → P = Q) ∧ (∀ p ∈ P, p.length ≤ s.length ∧ FitL p) ∧ (∀ p ∈ Q, p.length ≤ t.length ∧ FitL p) := by
  obtain ⟨S, hS⟩ := ClsS.some (canonO s)
  obtain ⟨U, hU, he⟩ : ∃ U, ClsS (canonO t) U ∧ (t.any flatT = false → U = S) := by
    by_cases hf : t.any flatT = false
    · exact ⟨S, by rw [← h.canon hf]; exact hS, fun _ => rfl⟩
    · obtain ⟨U, hU⟩ := ClsS.some (canonO t)
      exact ⟨U, hU, fun h => absurd h hf⟩
  have h1 := parts_few hS
  have h1 := Nat.le_trans h1 (Nat.le_of_eq (canonO_length s))
  refine ⟨S, U, hS, hU, _, _, rfl, rfl, ?_, h1, fun hf => by rw [he hf, h.canon hf], (parts_flat hfs hS.eqB).1, (parts_flat hft hU.eqB).1⟩
  rw [partsT_len, partsT_len]
  exact parts_count h.1 hS hU
end Go.Proofs.YtelfnmohpjkilaaGreatDoor
namespace Go.Proofs.YtelfnmohpjkilaaGreatDoor
open Go.RowKit Go.Sort
theorem shf_check {A : Option Addr} {c : Nat} {L : List Tri} {N : Nat} {E : Int} (hN : N = L.length) (hE : checkP L false = E) (hl : N ≤ 401) (hf : FitL L) (W : World) (hs : Sl encT 9 W W.heap.size A L) :
    Calls Tryz.prog 14 #[.slice A N c] W fun e w' => e = .returned (.int .i64 E) ∧ Below W.heap.size W w' := by
  have := Check4_any A c L W hs (by omega) hf
  rw [← hN, hE] at this
  exact this
theorem shf_open {A : Option Addr} {c : Nat} {L : List Tri} {N : Nat} {E : Int} (hN : N = L.length) (hE : checkP L true = E) (hl : N ≤ 401) (hf : FitL L) (W : World) (hs : Sl encT 9 W W.heap.size A L) :
    Calls Tryz.prog 16 #[.slice A N c] W fun e w' => e = .returned (.int .i64 E) ∧ Below W.heap.size W w' := by
  have := CheckOpen4_any A c L W hs (by omega) hf
  rw [← hN, hE] at this
  exact this
theorem shf_euler {A : Option Addr} {c : Nat} {L : List Tri} {N : Nat} {U : Int} (hN : N = L.length) (hU : eulerP L = U) (hl : N ≤ 401) (hf : FitL L) (W : World) (hs : Sl encT 9 W W.heap.size A L) :
    Calls Tryz.prog 36 #[.slice A N c] W fun e w' => e = .returned (.int .i64 U) ∧ Below W.heap.size W w' := by
  have := euler4_any A c L W hs (by omega) hf
  rw [← hN, hU] at this
  exact this
theorem shf_vol {A : Option Addr} {c : Nat} {L : List Tri} {N : Nat} {X : Int} (hN : N = L.length) (hX : vol6 L = X) (hl : N ≤ 401) (hf : FitL L) (W : World) (hs : Sl encT 9 W W.heap.size A L) :
    Calls Tryz.prog 26 #[.slice A N c] W fun e w' => ∃ b s, e = .returned (.agg #[.bool b, .string s]) ∧ WideN (.agg #[.bool b, .string s]) X ∧ Below W.heap.size W w' := by
  have := vol_p hf (by omega) A c W hs
  rw [← hN, hX] at this
  exact this
theorem shf_border {A : Option Addr} {c : Nat} {L : List Tri} {N : Nat} {B : List Ed} (hN : N = L.length) (hB : borderP L = B) (hl : N ≤ 401) (hf : FitL L) (W : World) (hs : Sl encT 9 W W.heap.size A L) :
    Calls Tryz.prog 22 #[.slice A N c] W fun e w' => ∃ A c, e = .returned (.slice A B.length c) ∧ Sl encE 6 w' w'.heap.size A B ∧ Below W.heap.size W w' := by
  have := Border4_any A c L W hs (by omega) hf
  rw [← hN, hB] at this
  refine Calls.mono this ?_
  rintro e w' ⟨v, rfl, ho, hB⟩
  obtain ⟨A, c, rfl⟩ := ho.form
  exact ⟨A, c, rfl, ho.sl encE_len (Nat.le_refl _), hB⟩
theorem shf_canon {A : Option Addr} {c : Nat} {L C : List Tri} {N : Nat} (hN : N = L.length) (hC : canonO L = C) (hl : N ≤ 401) (W : World) (hs : Sl encT 9 W W.heap.size A L) :
    Calls Tryz.prog 30 #[.slice A N c] W fun e w' => ∃ A c, e = .returned (.slice A N c) ∧ Sl encT 9 w' w'.heap.size A C ∧ Below W.heap.size W w' := by
  have k := canon_own A c L W hs (by omega)
  simp only [canonTO] at k
  rw [← hN, hC] at k
  refine Calls.mono k ?_
  rintro e w' ⟨v, rfl, ho, hB⟩
  obtain ⟨A, c, rfl⟩ := ho.form
  exact ⟨A, c, rfl, ho.sl encT_len (Nat.le_refl _), hB⟩
theorem shf_parts {A : Option Addr} {c : Nat} {L : List Tri} {N : Nat} {P : List (List Tri)} {S : Nat → Nat → Bool} (hN : N = L.length) (hS : ClsS (canonO L) S) (hP : P = partsT (canonO L) S (canonO L).length) (hl : N ≤ 401) (hf : FitL L) (W : World) (hs : Sl encT 9 W W.heap.size A L) :
    Calls Tryz.prog 34 #[.slice A N c] W fun e w' => ∃ A c, e = .returned (.slice A P.length c) ∧ Pcs encT 9 58 28 w' W.heap.size (.slice A P.length c) P ∧ Below W.heap.size W w' := by
  have k := parts4_any A c L W hs (by omega) hf S hS
  rw [← hN, ← hP] at k
  refine Calls.mono k ?_
  rintro e w' ⟨v, rfl, ho, hB⟩
  obtain ⟨A, c, rfl⟩ := ho.form
  exact ⟨A, c, rfl, ho.pcs, hB⟩
theorem shf_pairs {B : List Ed} (hf : ∀ e ∈ B, fitsE e) (hl : B.length ≤ 4294967296) (A A' : Option Addr) (c d : Nat) (W : World) (n1 n2 : Nat) (h1 : Sl encE 6 W n1 A B) (h2 : Sl encE 6 W n2 A' B) : Calls Tryz.prog 21 #[.slice A B.length c, .slice A' B.length d] W fun e w' => e = .returned (.bool true) ∧ ∃ k, w' = W.drewN k := by
  have := prs4_any A A' c d B B W n1 n2 h1 h2 (by omega) (by omega) hf hf
  rw [decide_eq_true (rfl : B = B)] at this; exact this
theorem shf_equal {C : List Tri} {m : Nat} (hm : m = C.length) (hf : FitL C) (hl : m ≤ 4294967296) (A A' : Option Addr) (c d : Nat) (W : World) (n1 n2 : Nat) (h1 : Sl encT 9 W n1 A C) (h2 : Sl encT 9 W n2 A' C) : Calls Tryz.prog 29 #[.slice A m c, .slice A' m d] W fun e w' => e = .returned (.bool true) ∧ ∃ k, w' = W.drewN k := by
  have := equal_any A A' c d C C W n1 n2 h1 h2 (by omega) (by omega) hf hf
  rw [decide_eq_true (rfl : C = C), ← hm] at this; exact this
theorem shf_same {A B : Option Addr} {c d : Nat} {L T : List Tri} {N : Nat} (hL : N = L.length) (hT : N = T.length) (hl : N ≤ 401) (hfL : FitL L) (hfT : FitL T) (he : canonO L = canonO T) (W : World) (h1 : Sl encT 9 W W.heap.size A L) (h2 : Sl encT 9 W W.heap.size B T) :
    Calls Tryz.prog 32 #[.slice A N c, .slice B N d] W fun e w' => e = .returned (.bool true) ∧ Below W.heap.size W w' := by
  have k := meshSame_any A B c d L T W h1 h2 (by omega) (by omega) hfL hfT
  rw [decide_eq_true he, ← hL, ← hT] at k; exact k
end Go.Proofs.YtelfnmohpjkilaaGreatDoor
namespace Go.Proofs.YtelfnmohpjkilaaGreatDoor
open Go.RowKit Go.Sort
set_option maxRecDepth 100000 in
set_option maxHeartbeats 64000000 in
theorem shuffled_of (hsan : ∀ W : World, Calls Tryz.prog 12 #[] W fun e w' => e = .returned (.bool true) ∧ Below W.heap.size W w') (op : Bool) (b0 : Nat) (A : Option Addr) (c : Nat) (ns : List Int) (s0 s1 s2 s3 s4 s5 : Int) (A9 : Option Addr) (c9 : Nat) (ord : List Nat) (w : World) (hb0 : b0 < 4294967296) (hs : ns ≠ [] → Sl encZ4 1 w w.heap.size A ns) (hf : ∀ n ∈ ns, fits n) (hlc : ns.length ≤ c) (hlm : ns.length ≤ 9223372036854775807)
    (hs9 : ord ≠ [] → Sl encB 1 w w.heap.size A9 ord) (hf9 : ∀ r ∈ ord, r < 256) (hl9 : ord.length ≤ 9223372036854775807) :
    Calls Tryz.prog 11 #[.agg (vSh op b0 A ns.length c s0 s1 s2 s3 s4 s5), .slice A9 ord.length c9] w fun e w' => e = .returned (.bool true) ∧ Below w.heap.size w w' := by
  have htr := fun W (hW : Below w.heap.size w W) => tris_any op b0 A c ns s0 s1 s2 s3 s4 s5 W hb0 (fun h => ((hs h).below hW).more hW.size) hf hlc hlm
  obtain ⟨M0, hM0⟩ : ∃ M, M = ns.length := ⟨_, rfl⟩
  simp only [← hM0] at htr ⊢
  have HT := hide htr
  have HS := hide hsan
  have H := hide (And.intro hs9 hf9)
  clear htr hsan hs hf hM0 hlc hlm hs9 hf9
  go_enter Tryz.func11, Tryz.ntmps11
  go_upto_region 1 with fail
  obtain ⟨xb, hxb⟩ : ∃ g, g = w.heap.size := ⟨_, rfl⟩
  obtain ⟨W0, hW0⟩ : ∃ W, W = w.alloc (.cells (vSh op b0 A M0 c s0 s1 s2 s3 s4 s5) 26) := ⟨_, rfl⟩
  rw [← hW0, ← hxb]
  have hbx : Blk W0 xb 26 (vSh op b0 A M0 c s0 s1 s2 s3 s4 s5) := by rw [hW0, hxb]; exact Blk.new _ _ _
  have hB0 : Below w.heap.size w W0 := by rw [hW0]; exact (Below.refl _ w).alloc (Nat.le_refl _) _
  have H0 := hide (And.intro hbx hB0)
  clear hbx hB0 hW0 hxb
  go_upto_region 2 with (go_at_call 12; refine (HS.out W0).mono ?_; rintro e X ⟨rfl, hB⟩; have h1 := H0.out.1.below hB H0.out.1.lt; have h2 := H0.out.2.trans (hB.mono H0.out.2.size); have H1 := hide (And.intro h1 h2); clear h1 h2 hB)
  have x0 : X.cell? ⟨xb, 0, none⟩ = some (.bool op) := H1.out.1.cell 0
  have x1 : X.cell? ⟨xb, 1, none⟩ = some (.int .u32 b0) := H1.out.1.cell 1
  have x2 : X.cell? ⟨xb, 2, none⟩ = some (.slice A M0 c) := H1.out.1.cell 2
  have x3 : X.cell? ⟨xb, 3, none⟩ = some (.int .i64 s0) := H1.out.1.cell 3
  have x4 : X.cell? ⟨xb, 4, none⟩ = some (.int .i64 s1) := H1.out.1.cell 4
  have x5 : X.cell? ⟨xb, 5, none⟩ = some (.int .i64 s2) := H1.out.1.cell 5
  have x6 : X.cell? ⟨xb, 6, none⟩ = some (.int .i64 s3) := H1.out.1.cell 6
  have x7 : X.cell? ⟨xb, 7, none⟩ = some (.int .i64 s4) := H1.out.1.cell 7
  have x8 : X.cell? ⟨xb, 8, none⟩ = some (.int .i64 s5) := H1.out.1.cell 8
  have hxl := H1.out.1.lt
  go_upto_region 3 with (go_at_call 13; refine (HT.out X H1.out.2).mono ?_; rintro e Y ⟨v, rfl, L0, ho, hl, hf, hB⟩; obtain ⟨TA, tc, rfl⟩ := ho.form; have h1 := ho.sl encT_len (Nat.le_refl _); have H2 := hide (And.intro h1 (And.intro hl (And.intro hf (H1.out.2.trans (hB.mono H1.out.2.size))))); clear ho hl hf hB h1)
  clear x0 x1 x2 x3 x4 x5 x6 x7 x8 hxl H1 H0
  obtain ⟨M, hM⟩ : ∃ n, n = L0.length := ⟨_, rfl⟩
  have hM4 : M ≤ 401 := by rw [hM]; exact H2.out.2.1
  have hlit : Own encT 9 58 (Y.alloc (.cells #[] 58)) Y.heap.size (.slice (some ⟨Y.heap.size, 0, none⟩) 0 0) 0 ([] : List Tri) :=
    ⟨rfl, by simpa using World.ownsRow_lit (e := 58) (size := 9) Y #[] 0 (Nat.le_refl _) (by unfold maxLen; omega) (by simp)⟩
  have hsl2 : Sl encT 9 (Y.alloc (.cells #[] 58)) Y.heap.size TA L0 := H2.out.1.below ((Below.refl _ Y).alloc (Nat.le_refl _) _)
  have HL0 := hide (And.intro hlit hsl2)
  clear hlit hsl2
  rw [← hM]
  have hRW0 : Below Y.heap.size Y (Y.alloc (.cells #[] 58)) := (Below.refl _ Y).alloc (Nat.le_refl _) _
  have HR0 := hide hRW0
  have HM := hide hM
  clear hRW0 hM
  go_upto_region 4 with (at_builtin; refine wpList_appendS rfl _ _ _ rfl Tryz.underlying28 infoT rfl (by omega) encT_len encT_one rfl HL0.out.1 TA tc Y.heap.size L0 (by rw [← HM.out]; rfl) HL0.out.2 (by have := HM.out; unfold maxLen; omega) (by have := HM.out; omega) (by simp) ?_; intro v3 w3 hown3 hg3 hB3 hat3; rw [Nat.zero_add, List.nil_append, ← HM.out] at hown3; obtain ⟨As, cs, rfl⟩ := hown3.form; have H3 := hide (And.intro hown3 (HR0.out.trans hB3)); clear hown3 hg3 hB3 hat3)
  clear HL0 HR0
  go_upto_region 5 with fail
  go_loopw [8] (fun i wx => ∃ (k : Nat) (L : List Tri), 1 ≤ k ∧ k ≤ M + 1 ∧ i = .int .i64 k ∧ Own encT 9 58 wx Y.heap.size (.slice As M cs) M L ∧ ShfR L L0 ∧ FitL L ∧ Below Y.heap.size Y wx) (fun i _ => M + 1 - (intOf i).toNat)
  case atStart => exact ⟨1, L0, by omega, by omega, rfl, H3.out.1, .refl _, H2.out.2.2.1, H3.out.2⟩
  case round =>
    obtain ⟨k, L, hk1, hkM, rfl, hownL, hperm, hLd, hBx⟩ := hrel
    obtain ⟨V, rfl⟩ : ∃ x, x = wr := ⟨_, rfl⟩
    by_cases hgo : k < M ∧ 0 < ord.length
    · obtain ⟨hkM2, ho⟩ := hgo
      obtain ⟨r, hr⟩ : ∃ r, r = k % ord.length := ⟨_, rfl⟩
      have hrl : r < ord.length := by rw [hr]; exact Nat.mod_lt _ ho
      have hmod : (k : Int) % (ord.length : Int) = (r : Int) := by rw [hr]; exact (Int.natCast_emod k ord.length).symm
      obtain ⟨x, hx⟩ : ∃ x, ord[r]? = some x := ⟨_, List.getElem?_eq_getElem hrl⟩
      have hxb := H.out.2 x (List.mem_of_getElem? hx)
      have hBw : Below w.heap.size w V := H2.out.2.2.2.trans (hBx.mono H2.out.2.2.2.size)
      obtain ⟨bo, oo, hBo, hbo, hcx⟩ := (H.out.1 (fun e => by rw [e] at hx; simp at hx)).at hx
      subst hBo
      have hx00 : w.cell? ⟨bo, oo + r, none⟩ = some (.int .u8 x) := by have := hcx 0 _ rfl; rwa [Nat.mul_one, Nat.add_zero] at this
      have hx0 := (hBw.cell (p := ⟨bo, oo + r, none⟩) hbo).trans hx00
      have hboV : bo < V.heap.size := Nat.lt_of_lt_of_le hbo hBw.size
      have HX := hide (And.intro hx00 (And.intro hbo H2.out.2.2.2))
      obtain ⟨xk, hxk⟩ : ∃ m, m = x * k := ⟨_, rfl⟩
      have hxkb : xk ≤ 255 * 401 := by rw [hxk]; exact Nat.mul_le_mul (by omega) (by omega)
      have hxki : (x : Int) * (k : Int) = (xk : Int) := by rw [hxk]; exact (Int.natCast_mul x k).symm
      obtain ⟨j, hj⟩ : ∃ j, j = xk % (k + 1) := ⟨_, rfl⟩
      have hjk : j ≤ k := by rw [hj]; have := Nat.mod_lt xk (show 0 < k + 1 by omega); omega
      have hmodj : (xk : Int) % ((k : Int) + 1) = (j : Int) := by rw [hj]; exact (Int.natCast_emod xk (k + 1)).symm
      obtain ⟨g, cap0, hv, hgb, hgl⟩ := hownL.at (by intro e; rw [e] at hownL; have := hownL.1; simp at this; omega)
      obtain rfl : As = some ⟨g, 0, none⟩ := by injection hv
      have hML := hownL.1
      obtain ⟨tk, htk⟩ : ∃ t, L[k]? = some t := ⟨_, List.getElem?_eq_getElem (by omega)⟩
      obtain ⟨tj, htj⟩ : ∃ t, L[j]? = some t := ⟨_, List.getElem?_eq_getElem (by omega)⟩
      obtain ⟨b1, o1, e1, _, k0, k1, k2, k3, k4, k5, k6, k7, k8⟩ := (hownL.sl encT_len (Nat.le_refl _)).tri htk
      cases e1
      obtain ⟨b1, o1, e1, _, j0, j1, j2, j3, j4, j5, j6, j7, j8⟩ := (hownL.sl encT_len (Nat.le_refl _)).tri htj
      cases e1
      simp only [Nat.zero_add] at k0 k1 k2 k3 k4 k5 k6 k7 k8 j0 j1 j2 j3 j4 j5 j6 j7 j8
      have i1 : (k : Int) < (M : Int) := by omega
      have i2 : (j : Int) < (M : Int) := by omega
      have i3 : (r : Int) < (ord.length : Int) := by omega
      have d1 : decide (k < M) = true := decide_eq_true hkM2
      have d2 : decide ((0 : Int) < (ord.length : Int)) = true := decide_eq_true (by omega)
      have p0 : IntKind.i64.wrap (xk : Int) = (xk : Int) := IntWalk.i64_in _ (by omega)
      obtain ⟨csb, hcsb⟩ := hownL.cells g rfl
      have hfz := fun i => Blk.frozen hcsb i
      have HL := hide (And.intro hownL (And.intro hperm (And.intro hLd (And.intro hBx (And.intro htk (And.intro htj hML))))))
      have HZ := hide hfz
      clear hownL hperm hLd hBx htk htj hML hv hcx hx hr hrl hcsb hfz hj hxk hx00 hbo hBw
      go_upto_region 7 with fail
      go_upto_region 8 with fail
      rw [hmodj]
      have hsz9 : (Tryz.prog.info? 58).map (·.size) = some 9 := by kernel_rfl
      obtain ⟨W1, hW1⟩ : ∃ W1, W1 = V.drew.setCells g (k * 9) (encT tj) := ⟨_, rfl⟩
      have hO1 : Own encT 9 58 W1 Y.heap.size (.slice (some ⟨g, 0, none⟩) M cs) M (L.set k tj) := by
        rw [hW1, setCells_eq]
        exact Own.setW encT_len (show Own encT 9 58 V.drew Y.heap.size _ M L from HL.out.1) (List.getElem?_eq_some_iff.1 HL.out.2.2.2.2.1).1 tj
      obtain ⟨W2, hW2⟩ : ∃ W2, W2 = W1.setCells g (j * 9) (encT tk) := ⟨_, rfl⟩
      have hO2 : Own encT 9 58 W2 Y.heap.size (.slice (some ⟨g, 0, none⟩) M cs) M ((L.set k tj).set j tk) := by
        rw [hW2, setCells_eq]
        exact Own.setW encT_len hO1 (by rw [List.length_set]; exact (List.getElem?_eq_some_iff.1 HL.out.2.2.2.2.2.1).1) tk
      have ht1 : V.drew.there g (k * 9) 9 := own_there encT_len (show Own encT 9 58 V.drew Y.heap.size _ M L from HL.out.1) HL.out.2.2.2.2.1
      have ht2 : W1.there g (j * 9) 9 := by
        have hj1 : ∃ t, (L.set k tj)[j]? = some t := ⟨_, List.getElem?_eq_getElem (by rw [List.length_set]; exact (List.getElem?_eq_some_iff.1 HL.out.2.2.2.2.2.1).1)⟩
        obtain ⟨t, ht⟩ := hj1
        exact own_there encT_len hO1 ht
      have HST := hide (And.intro ht1 (And.intro ht2 (And.intro hW1 (And.intro hW2 hsz9))))
      have hB2 : Below Y.heap.size Y W2 := by
        rw [hW2, hW1, setCells_eq, setCells_eq]
        exact setW_below hgb _ _ _ (setW_below hgb _ _ _ (below_drewN HL.out.2.2.2.1 1))
      have HW := hide (And.intro hO2 hB2)
      have HMD := hide hmod
      clear hmodj hmod hx0 hW1 hW2 hO1 hO2 hB2 hsz9 ht1 ht2
      have hstart := SwI.start V.drew W1 W2 (swEx (.slice (some ⟨g, 0, none⟩) M cs) (.int .i64 k) (.int .i64 j) (.pointer (some ⟨g, k * 9, none⟩)) (.pointer (some ⟨g, j * 9, none⟩)) (vT tk) (vT tj))
      refine wp_region_inv (rs := [0, 1, 2, 3, 4, 5, 6, 7, 8, 9, 10, 11, 12, 13, 14, 15]) (ms := [0, 0, 0, 0, 0, 0, 48, 112, 0, 0, 768, 1792, 4083, 8179, 16383, 32767]) (ds := [(0, 45), (1, 46), (2, 47), (3, 48), (4, 49), (5, 50), (6, 51), (7, 52), (8, 53), (9, 54), (10, 55), (11, 56), (12, 57), (14, 58)]) (SwI V.drew W1 W2 (swEx (.slice (some ⟨g, 0, none⟩) M cs) (.int .i64 k) (.int .i64 j) (.pointer (some ⟨g, k * 9, none⟩)) (.pointer (some ⟨g, j * 9, none⟩)) (vT tk) (vT tj))) mixed_ok (by kernel_rfl) hstart ⟨?s0, ?s1, ?s2, ?s3, ?s4, ?s5, ?s6, ?s7, ?s8, ?s9, ?s10, ?s11, ?s12, ?s13, ?s14, ?s15, trivial⟩ ?e
      case s0 =>
        intro L vals V9 hLi hL hI
        have HI := hide hI
        clear hI
        refine wpOp_of_list rfl ?_
        rw [shuf_act8]
        go_wp2
        exact ⟨by trivial, HI.out.quiet 0 (by decide) (by decide) rfl⟩
      case s1 =>
        intro L vals V9 hLi hL hI
        have HI := hide hI
        clear hI
        refine wpOp_of_list rfl ?_
        rw [shuf_act8]
        go_wp2
        exact ⟨by trivial, HI.out.quiet 1 (by decide) (by decide) rfl⟩
      case s2 =>
        intro L vals V9 hLi hL hI
        have HI := hide hI
        clear hI
        refine wpOp_of_list rfl ?_
        rw [shuf_act8]
        go_wp2
        exact ⟨by trivial, HI.out.quiet 2 (by decide) (by decide) rfl⟩
      case s3 =>
        intro L vals V9 hLi hL hI
        have HI := hide hI
        clear hI
        refine wpOp_of_list rfl ?_
        rw [shuf_act8]
        go_wp2
        exact ⟨by trivial, HI.out.quiet 3 (by decide) (by decide) rfl⟩
      case s4 =>
        intro L vals V9 hLi hL hI
        have HI := hide hI
        clear hI
        refine wpOp_of_list rfl ?_
        rw [shuf_act8]
        go_wp2
        exact ⟨by trivial, HI.out.quiet 4 (by decide) (by decide) rfl⟩
      case s5 =>
        intro L vals V9 hLi hL hI
        have HI := hide hI
        clear hI
        refine wpOp_of_list rfl ?_
        rw [shuf_act8]
        go_wp2
        exact ⟨by trivial, HI.out.quiet 5 (by decide) (by decide) rfl⟩
      case s6 =>
        intro L vals V9 hLi hL hI
        have hv4 : vals 4 = .slice (some ⟨g, 0, none⟩) M cs := hI.v 4 (by decide) (by decide) (hL 4 rfl)
        have hv5 : vals 5 = .int .i64 j := hI.v 5 (by decide) (by decide) (hL 5 rfl)
        have HI := hide hI
        clear hI
        refine wpOp_of_list rfl ?_
        rw [shuf_act8]
        simp only [hv4, hv5]
        go_wp2
        exact ⟨by trivial, HI.out.quiet 6 (by decide) (by decide) rfl⟩
      case s7 =>
        intro L vals V9 hLi hL hI
        have hv6 : vals 6 = .pointer (some ⟨g, j * 9, none⟩) := hI.v 6 (by decide) (by decide) (hL 6 rfl)
        obtain rfl : V9 = V.drew := hI.w0 (by cases h : L 13 with
          | false => rfl
          | true => have h' := (hI.c h).1; rw [hLi] at h'; cases h')
        have HI := hide hI
        clear hI
        refine wpOp_of_list rfl ?_
        rw [shuf_act8]
        simp only [hv6]
        go_wp2
        exact ⟨by trivial, HI.out.quiet 7 (by decide) (by decide) rfl⟩
      case s8 =>
        intro L vals V9 hLi hL hI
        have HI := hide hI
        clear hI
        refine wpOp_of_list rfl ?_
        rw [shuf_act8]
        go_wp2
        exact ⟨by trivial, HI.out.quiet 8 (by decide) (by decide) rfl⟩
      case s9 =>
        intro L vals V9 hLi hL hI
        have HI := hide hI
        clear hI
        refine wpOp_of_list rfl ?_
        rw [shuf_act8]
        go_wp2
        exact ⟨by trivial, HI.out.quiet 9 (by decide) (by decide) rfl⟩
      case s10 =>
        intro L vals V9 hLi hL hI
        have hv8 : vals 8 = .slice (some ⟨g, 0, none⟩) M cs := hI.v 8 (by decide) (by decide) (hL 8 rfl)
        have hv9 : vals 9 = .int .i64 k := hI.v 9 (by decide) (by decide) (hL 9 rfl)
        have HI := hide hI
        clear hI
        refine wpOp_of_list rfl ?_
        rw [shuf_act8]
        simp only [hv8, hv9]
        go_wp2
        exact ⟨by trivial, HI.out.quiet 10 (by decide) (by decide) rfl⟩
      case s11 =>
        intro L vals V9 hLi hL hI
        have hv10 : vals 10 = .pointer (some ⟨g, k * 9, none⟩) := hI.v 10 (by decide) (by decide) (hL 10 rfl)
        obtain rfl : V9 = V.drew := hI.w0 (by cases h : L 13 with
          | false => rfl
          | true => have h' := (hI.c h).2; rw [hLi] at h'; cases h')
        have HI := hide hI
        clear hI
        refine wpOp_of_list rfl ?_
        rw [shuf_act8]
        simp only [hv10]
        go_wp2
        exact ⟨by trivial, HI.out.quiet 11 (by decide) (by decide) rfl⟩
      case s12 =>
        intro L vals V9 hLi hL hI
        have hv0 : vals 0 = .slice (some ⟨g, 0, none⟩) M cs := hI.v 0 (by decide) (by decide) (hL 0 rfl)
        have hv1 : vals 1 = .int .i64 k := hI.v 1 (by decide) (by decide) (hL 1 rfl)
        have HI := hide hI
        clear hI
        refine wpOp_of_list rfl ?_
        rw [shuf_act8]
        simp only [hv0, hv1]
        go_wp2
        exact ⟨by trivial, HI.out.quiet 12 (by decide) (by decide) rfl⟩
      case s13 =>
        intro L vals V9 hLi hL hI
        have hv7 : vals 7 = vT tj := hI.v 7 (by decide) (by decide) (hL 7 rfl)
        have hv12 : vals 12 = .pointer (some ⟨g, k * 9, none⟩) := hI.v 12 (by decide) (by decide) (hL 12 rfl)
        obtain rfl : V9 = V.drew := hI.w0 hLi
        have h7 := hL 7 rfl
        have h11 := hL 11 rfl
        have HI := hide hI
        clear hI
        refine wpOp_of_list (o := { dst := none, op := Op.store 58 (Operand.tmp 57) (Operand.tmp 52), type := 0, pos := "more.go:67", after := #[{ on := 12, ground := Ground.data }, { on := 7, ground := Ground.data }, { on := 0, ground := Ground.phase }, { on := 1, ground := Ground.phase }, { on := 2, ground := Ground.textOnly Departure.lateStores }, { on := 3, ground := Ground.textOnly Departure.lateStores }, { on := 4, ground := Ground.phase }, { on := 5, ground := Ground.phase }, { on := 6, ground := Ground.phase }, { on := 7, ground := Ground.phase }, { on := 8, ground := Ground.textOnly Departure.lateStores }, { on := 9, ground := Ground.textOnly Departure.lateStores }, { on := 10, ground := Ground.textOnly Departure.lateStoresUnsure }, { on := 11, ground := Ground.phase }], guard := none }) rfl ?_
        rw [shuf_act8]
        simp only [hv7, hv12]
        refine wpList_store_mid rfl 58 _ _ rfl g (k * 9) (encT tj).toArray rfl rfl HST.out.1 HST.out.2.2.2.2 (all_oneCell_toArray (encT_one tj)) ?_
        change wpList _ _ _ _ _ (V.drew.setCells g (k * 9) (encT tj))
        rw [← HST.out.2.2.1]
        exact ⟨rfl, HI.out.st1 hLi h7 h11 _⟩
      case s14 =>
        intro L vals V9 hLi hL hI
        have hv2 : vals 2 = .slice (some ⟨g, 0, none⟩) M cs := hI.v 2 (by decide) (by decide) (hL 2 rfl)
        have hv3 : vals 3 = .int .i64 j := hI.v 3 (by decide) (by decide) (hL 3 rfl)
        have HI := hide hI
        clear hI
        refine wpOp_of_list rfl ?_
        rw [shuf_act8]
        simp only [hv2, hv3]
        go_wp2
        exact ⟨by trivial, HI.out.quiet 14 (by decide) (by decide) rfl⟩
      case s15 =>
        intro L vals V9 hLi hL hI
        have hv11 : vals 11 = vT tk := hI.v 11 (by decide) (by decide) (hL 11 rfl)
        have hv14 : vals 14 = .pointer (some ⟨g, j * 9, none⟩) := hI.v 14 (by decide) (by decide) (hL 14 rfl)
        obtain rfl : W1 = V9 := (hI.w1 (hL 13 rfl) hLi).symm
        have h13 := hL 13 rfl
        have HI := hide hI
        clear hI
        refine wpOp_of_list (o := { dst := none, op := Op.store 58 (Operand.tmp 58) (Operand.tmp 56), type := 0, pos := "more.go:67", after := #[{ on := 14, ground := Ground.data }, { on := 11, ground := Ground.data }, { on := 13, ground := Ground.chain }, { on := 0, ground := Ground.phase }, { on := 1, ground := Ground.phase }, { on := 2, ground := Ground.phase }, { on := 3, ground := Ground.phase }, { on := 4, ground := Ground.phase }, { on := 5, ground := Ground.phase }, { on := 6, ground := Ground.phase }, { on := 7, ground := Ground.phase }, { on := 8, ground := Ground.phase }, { on := 9, ground := Ground.phase }, { on := 10, ground := Ground.phase }, { on := 11, ground := Ground.phase }, { on := 12, ground := Ground.phase }, { on := 13, ground := Ground.phase }], guard := none }) rfl ?_
        rw [shuf_act8]
        simp only [hv11, hv14]
        refine wpList_store_mid rfl 58 _ _ rfl g (j * 9) (encT tk).toArray rfl rfl HST.out.2.1 HST.out.2.2.2.2 (all_oneCell_toArray (encT_one tk)) ?_
        have e2 : W1.setCells g (j * 9) (encT tk).toArray.toList = W2 := HST.out.2.2.2.1.symm
        rw [e2]
        exact ⟨rfl, HI.out.st2 h13 _⟩
      case e =>
        intro LL vals V9 hL hI
        obtain rfl : W2 = V9 := (hI.w2 (hL 15 (by decide))).symm
        rw [shuf_act8]
        clear hI hL
        obtain ⟨z, hz⟩ : ∃ z, ((L.set k tj).set j tk)[k]? = some z := ⟨_, List.getElem?_eq_getElem (by rw [List.length_set, List.length_set]; exact (List.getElem?_eq_some_iff.1 HL.out.2.2.2.2.1).1)⟩
        obtain ⟨b1, o1, e1, _, z0, z1, z2, z3, z4, z5, z6, z7, z8⟩ := (HW.out.1.sl encT_len (Nat.le_refl _)).tri hz
        cases e1
        simp only [Nat.zero_add] at z0 z1 z2 z3 z4 z5 z6 z7 z8
        have hlaw := shuf_round (n := x) HL.out.2.2.2.2.1 HL.out.2.2.2.2.2.1 HL.out.2.1 HL.out.2.2.1 z hz
        have hth : W2.drew.there g (k * 9) 9 := own_there encT_len (show Own encT 9 58 W2.drew Y.heap.size _ M _ from HW.out.1) hz
        have hset : ∀ y : Tri, Own encT 9 58 (setW W2 g (k * 9) (encT y)).drew Y.heap.size (.slice (some ⟨g, 0, none⟩) M cs) M (((L.set k tj).set j tk).set k y) := fun y =>
          (Own.setW encT_len HW.out.1 (List.getElem?_eq_some_iff.1 hz).1 y).drew
        have hbel : ∀ y : Tri, Below Y.heap.size Y (setW W2 g (k * 9) (encT y)).drew := fun y => below_drewN (setW_below hgb _ _ _ HW.out.2) 1
        have HY := hide (And.intro hlaw (And.intro hth (And.intro hset (And.intro hbel HST.out.2.2.2.2))))
        have hBw2 : Below w.heap.size w W2 := HX.out.2.2.trans (HW.out.2.mono HX.out.2.2.size)
        have hx2 := (hBw2.cell (p := ⟨bo, oo + r, none⟩) HX.out.2.1).trans HX.out.1
        have hboW : bo < W2.heap.size := Nat.lt_of_lt_of_le HX.out.2.1 hBw2.size
        have hmod : (k : Int) % (ord.length : Int) = (r : Int) := HMD.out
        clear hBw2
        obtain ⟨csz, hcsz⟩ := HW.out.1.cells g rfl
        have y0 := Blk.frozen hcsz (k * 9)
        have y1 := Blk.frozen hcsz (k * 9 + 1)
        have y2 := Blk.frozen hcsz (k * 9 + 2)
        have y3 := Blk.frozen hcsz (k * 9 + 3)
        have y4 := Blk.frozen hcsz (k * 9 + 4)
        have y5 := Blk.frozen hcsz (k * 9 + 5)
        have y6 := Blk.frozen hcsz (k * 9 + 6)
        have y7 := Blk.frozen hcsz (k * 9 + 7)
        have y8 := Blk.frozen hcsz (k * 9 + 8)
        clear hlaw hth hset hbel hz hcsz
        go_upto_region 9 with fail
        rcases (show x % 3 = 0 ∨ x % 3 = 1 ∨ x % 3 = 2 by omega) with hr3 | hr3 | hr3
        · have m0 : (x : Int).tmod 3 = 0 := by
            have h1 : (x : Int).tmod 3 = (x : Int) % 3 := Int.tmod_eq_emod_of_nonneg (by omega)
            rw [h1]; omega
          have m1 : (x : Int) % 3 = 0 := by omega
          have hy : cycN z x = z := cycN_0 z x hr3
          have HC := hide (And.intro hy hr3)
          clear hy hr3
          have a1 : IntKind.i64.wrap 1 = 1 := by decide
          have a2 : IntKind.i64.wrap 2 = 2 := by decide
          have a3 : IntKind.i64.wrap 3 = 3 := by decide
          have a4 : IntKind.i64.wrap 4 = 4 := by decide
          go_upto_region 10 with fail
          go_still_tail 26, (by kernel_rfl)
          repeat still_step
          change wpList _ _ _ _ _ W2.drew
          clear m0 m1 a1 a2 a3 a4
          go_wp2
          go_roundw
          case rel =>
            have hlaw := HY.out.1
            rw [HC.out.1] at hlaw
            have hO := HY.out.2.2.1 z
            have hBl := HY.out.2.2.2.1 z
            rw [setW_tri] at hO hBl
            exact ⟨k + 1, ((L.set k tj).set j tk).set k z, by omega, by omega, by go_num, hO, hlaw.1, hlaw.2, hBl⟩
          case measure => (simp [intOf]; try omega)
        · have m0 : (x : Int).tmod 3 = 1 := by
            have h1 : (x : Int).tmod 3 = (x : Int) % 3 := Int.tmod_eq_emod_of_nonneg (by omega)
            rw [h1]; omega
          have m1 : (x : Int) % 3 = 1 := by omega
          have hy : cycN z x = (z.2.1, z.2.2, z.1) := cycN_1 z x hr3
          have HC := hide (And.intro hy hr3)
          clear hy hr3
          have a1 : IntKind.i64.wrap 1 = 1 := by decide
          have a2 : IntKind.i64.wrap 2 = 2 := by decide
          have a3 : IntKind.i64.wrap 3 = 3 := by decide
          have a4 : IntKind.i64.wrap 4 = 4 := by decide
          go_upto_region 10 with fail
          go_still_tail 26, (by kernel_rfl)
          repeat still_step
          change wpList _ _ _ _ _ W2.drew
          clear m0 m1 a1 a2 a3 a4
          go_wp2
          go_roundw
          case rel =>
            have hlaw := HY.out.1
            rw [HC.out.1] at hlaw
            have hO := HY.out.2.2.1 ((z.2.1, z.2.2, z.1) : Tri)
            have hBl := HY.out.2.2.2.1 ((z.2.1, z.2.2, z.1) : Tri)
            rw [setW_tri] at hO hBl
            exact ⟨k + 1, ((L.set k tj).set j tk).set k ((z.2.1, z.2.2, z.1) : Tri), by omega, by omega, by go_num, hO, hlaw.1, hlaw.2, hBl⟩
          case measure => (simp [intOf]; try omega)
        · have m0 : (x : Int).tmod 3 = 2 := by
            have h1 : (x : Int).tmod 3 = (x : Int) % 3 := Int.tmod_eq_emod_of_nonneg (by omega)
            rw [h1]; omega
          have m1 : (x : Int) % 3 = 2 := by omega
          have hy : cycN z x = (z.2.2, z.1, z.2.1) := cycN_2 z x hr3
          have HC := hide (And.intro hy hr3)
          clear hy hr3
          have a1 : IntKind.i64.wrap 1 = 1 := by decide
          have a2 : IntKind.i64.wrap 2 = 2 := by decide
          have a3 : IntKind.i64.wrap 3 = 3 := by decide
          have a4 : IntKind.i64.wrap 4 = 4 := by decide
          go_upto_region 10 with fail
          go_still_tail 26, (by kernel_rfl)
          repeat still_step
          change wpList _ _ _ _ _ W2.drew
          clear m0 m1 a1 a2 a3 a4
          go_wp2
          go_roundw
          case rel =>
            have hlaw := HY.out.1
            rw [HC.out.1] at hlaw
            have hO := HY.out.2.2.1 ((z.2.2, z.1, z.2.1) : Tri)
            have hBl := HY.out.2.2.2.1 ((z.2.2, z.1, z.2.1) : Tri)
            rw [setW_tri] at hO hBl
            exact ⟨k + 1, ((L.set k tj).set j tk).set k ((z.2.2, z.1, z.2.1) : Tri), by omega, by omega, by go_num, hO, hlaw.1, hlaw.2, hBl⟩
          case measure => (simp [intOf]; try omega)
    · have hcase : decide (k < M) = false ∨ (decide (k < M) = true ∧ ord = []) := by
        by_cases h1 : k < M
        · exact .inr ⟨decide_eq_true h1, List.eq_nil_of_length_eq_zero (by omega)⟩
        · exact .inl (decide_eq_false h1)
      have hML : M = L.length := hownL.1
      have hM0 := HM.out
      have hfL0 := H2.out.2.2.1
      obtain ⟨S, U, hS, hU, P, Q, hP, hQ, hPQ, hPl, hsame, hfP, hfQ⟩ := parts_shf hperm (by omega) hLd hfL0
      have slS : ∀ W, Below V.heap.size V W → Sl encT 9 W W.heap.size As L := fun W h => ((hownL.sl encT_len (Nat.le_refl _)).below h).more h.size
      have slT : ∀ W, Below V.heap.size V W → Sl encT 9 W W.heap.size TA L0 := fun W h => (H2.out.1.below (hBx.trans (h.mono hBx.size))).more (by have := hBx.size; have := h.size; omega)
      obtain ⟨E, hE⟩ : ∃ E, E = checkP L0 false := ⟨_, rfl⟩
      obtain ⟨E2, hE2⟩ : ∃ E, E = checkP L0 true := ⟨_, rfl⟩
      obtain ⟨Eu, hEu⟩ : ∃ E, E = eulerP L0 := ⟨_, rfl⟩
      obtain ⟨Xv, hXv⟩ : ∃ E, E = vol6 L0 := ⟨_, rfl⟩
      obtain ⟨Bo, hBo⟩ : ∃ E, E = borderP L0 := ⟨_, rfl⟩
      have hbf : ∀ e ∈ Bo, fitsE e := fun e he => by rw [hBo] at he; exact edgesP_fits hfL0 e (((border_both L0).2 e).1 he).1
      have hbl : Bo.length ≤ 4294967296 := by have := borderP_le L0; rw [hBo]; omega
      have hvs : Xv.natAbs < 256 ^ 100 := by rw [hXv]; exact vol_small hfL0 (by omega)
      have kPs := fun W h => shf_parts (A := As) (c := cs) hML hS hP (by omega) hLd W (slS W h)
      have kPt := fun W h => shf_parts (A := TA) (c := tc) hM0 hU hQ (by omega) hfL0 W (slT W h)
      have kCs := fun W h => shf_check (A := As) (c := cs) hML ((check_perm hperm.1 false).trans hE.symm) (by omega) hLd W (slS W h)
      have kCt := fun W h => shf_check (A := TA) (c := tc) hM0 hE.symm (by omega) hfL0 W (slT W h)
      have kOs := fun W h => shf_open (A := As) (c := cs) hML ((check_perm hperm.1 true).trans hE2.symm) (by omega) hLd W (slS W h)
      have kOt := fun W h => shf_open (A := TA) (c := tc) hM0 hE2.symm (by omega) hfL0 W (slT W h)
      have kEs := fun W h => shf_euler (A := As) (c := cs) hML ((euler_perm hperm.1).trans hEu.symm) (by omega) hLd W (slS W h)
      have kEt := fun W h => shf_euler (A := TA) (c := tc) hM0 hEu.symm (by omega) hfL0 W (slT W h)
      have kVs := fun W h => shf_vol (A := As) (c := cs) hML ((vol6_shf hperm.1).trans hXv.symm) (by omega) hLd W (slS W h)
      have kVt := fun W h => shf_vol (A := TA) (c := tc) hM0 hXv.symm (by omega) hfL0 W (slT W h)
      have kBs := fun W h => shf_border (A := As) (c := cs) hML ((border_perm hperm.1).trans hBo.symm) (by omega) hLd W (slS W h)
      have kBt := fun W h => shf_border (A := TA) (c := tc) hM0 hBo.symm (by omega) hfL0 W (slT W h)
      have kPr := shf_pairs hbf hbl
      obtain ⟨np, hnp⟩ : ∃ n, n = P.length := ⟨_, rfl⟩
      rw [← hPQ] at kPt
      simp only [← hnp] at kPs kPt hPQ hPl
      have hnp4 : np ≤ 401 := by omega
      obtain ⟨nb, hnb⟩ : ∃ n, n = Bo.length := ⟨_, rfl⟩
      simp only [← hnb] at kBs kBt kPr
      have hdist : E ≠ 20 → P = Q ∧ canonO L = canonO L0 := fun h => by rw [hE] at h; exact ⟨hsame (check_flat h), hperm.canon (check_flat h)⟩
      have HYV := hide (H2.out.2.2.2.trans (hBx.mono H2.out.2.2.2.size))
      have KP := hide (And.intro kPs kPt)
      have KC := hide (And.intro kCs kCt)
      have KO := hide (And.intro kOs kOt)
      have KE := hide (And.intro kEs kEt)
      have KV := hide (And.intro kVs (And.intro kVt hvs))
      have KB := hide (And.intro kBs (And.intro kBt kPr))
      have KL := hide (And.intro slS slT)
      have KF := hide (And.intro hfP (And.intro hfQ (And.intro hLd (And.intro hfL0 (And.intro hML hM0)))))
      have KN := hide (And.intro hnp (And.intro hPQ trivial))
      have KD := hide hdist
      have hgo' := hide hgo
      clear hgo kPs kPt kCs kCt kOs kOt kEs kEt kVs kVt kBs kBt kPr slS slT hownL hperm hLd hBx hML hM0 hfL0 hS hU hP hQ hPl hsame hfP hfQ hE hE2 hEu hXv hBo hbf hbl hvs hnp hPQ hnb hdist
      have t0 : ((np : Int) != (np : Int)) = false := by simp
      have e1 : (E == E) = true := by simp
      have e2 : (E2 == E2) = true := by simp
      have e3 : (Eu == Eu) = true := by simp
      rcases hcase with h1 | ⟨h1, h2⟩
      · skip
        by_cases hE20 : E = 20
        · have hd : (E != 20) = false := by simp [hE20]
          clear hE20
          go_upto_region 12 with (first
            | (go_at_call 34; refine (KP.out.2 W1 J1.out.2).mono ?_; rintro e Z ⟨BA, bc, rfl, hp, hB⟩; have J2 := hide (And.intro (J1.out.1.below hB (Nat.le_refl _)) (And.intro hp (J1.out.2.trans (hB.mono J1.out.2.size)))); clear hp hB)
            | (go_at_call 34; refine (KP.out.1 V (Below.refl _ V)).mono ?_; rintro e W1 ⟨AA, ac, rfl, hp, hB⟩; have J1 := hide (And.intro hp hB); clear hp hB))
          go_upto_region 14 with fail
          go_upto_region 15 with (go_at_call 14; refine (KC.out.2 Z J2.out.2.2).mono ?_; rintro e Z2 ⟨rfl, hB⟩; have J3 := hide (And.intro (J2.out.1.below hB (Nat.le_refl _)) (And.intro (J2.out.2.1.below hB (Nat.le_refl _)) (J2.out.2.2.trans (hB.mono J2.out.2.2.size)))); clear hB)
          clear J1 J2
          go_upto_region 16 with fail
          go_loopw [108] (fun kv wr => ∃ k : Nat, k ≤ np ∧ kv = .int .i64 k ∧ Below Z2.heap.size Z2 wr) (fun kv _ => np - (intOf kv).toNat)
          case atStart => exact ⟨0, by omega, rfl, Below.refl _ Z2⟩
          case round =>
            obtain ⟨q, hq, rfl, hB⟩ := hrel
            obtain ⟨V2, rfl⟩ : ∃ x, x = wr := ⟨_, rfl⟩
            by_cases hlt : q < np
            · have i1 : (q : Int) < (np : Int) := by omega
              have HB := hide hB
              clear hB
              go_upto_region 18 with fail
              go_quiet (fail)
              go_wp2
              go_roundw
              case rel => exact ⟨q + 1, by omega, by go_num, below_drewN HB.out _⟩
              case measure => (simp [intOf]; try omega)
            · obtain rfl : q = np := by omega
              have i1 : ¬ (q : Int) < (q : Int) := by omega
              have hYV := J3.out.2.2.trans (hB.mono J3.out.2.2.size)
              obtain ⟨W20, hW20⟩ : ∃ W, W = V2 := ⟨_, rfl⟩
              rw [← hW20] at hYV ⊢
              have G20 := hide (And.intro hYV trivial)
              clear hB hYV hW20 t0 J3
              go_wp2_with (first
                | (go_at_call 21; refine (KB.out.2.2 A4 A5 c4 c5 W30 _ _ G30.out.2.1 G30.out.2.2).mono ?_; rintro e W31 ⟨rfl, kd, hw⟩; have G31 := hide (And.intro (show Below V.heap.size V W31 by rw [hw]; exact below_drewN G30.out.1 kd) trivial); clear hw)
                | (go_at_call 22; refine (KB.out.2.1 W29 G29.out.1).mono ?_; rintro e W30 ⟨A5, c5, rfl, hx, hB⟩; have G30 := hide (And.intro (G29.out.1.trans (hB.mono G29.out.1.size)) (And.intro (G29.out.2.below hB) hx)); clear hx hB)
                | (go_at_call 22; refine (KB.out.1 W28 G28.out.1).mono ?_; rintro e W29 ⟨A4, c4, rfl, hx, hB⟩; have G29 := hide (And.intro (G28.out.1.trans (hB.mono G28.out.1.size)) hx); clear hx hB)
                | (go_at_call 26; refine (KV.out.2.1 W27 G27.out.1).mono ?_; rintro e W28 ⟨b2, u2, rfl, hv, hB⟩; obtain ⟨rfl, rfl⟩ := wide_pair G27.out.2 hv; have e9 := eqWd b1 u1 (wideN_size5 hv KV.out.2.2); have G28 := hide (And.intro (G27.out.1.trans (hB.mono G27.out.1.size)) trivial); clear hv hB)
                | (go_at_call 26; refine (KV.out.1 W26 G26.out.1).mono ?_; rintro e W27 ⟨b1, u1, rfl, hv, hB⟩; have G27 := hide (And.intro (G26.out.1.trans (hB.mono G26.out.1.size)) hv); clear hv hB)
                | (go_at_call 36; refine (KE.out.2 W25 G25.out.1).mono ?_; rintro e W26 ⟨rfl, hB⟩; have G26 := hide (And.intro (G25.out.1.trans (hB.mono G25.out.1.size)) trivial); clear hB)
                | (go_at_call 36; refine (KE.out.1 W24 G24.out.1).mono ?_; rintro e W25 ⟨rfl, hB⟩; have G25 := hide (And.intro (G24.out.1.trans (hB.mono G24.out.1.size)) trivial); clear hB)
                | (go_at_call 16; refine (KO.out.2 W23 G23.out.1).mono ?_; rintro e W24 ⟨rfl, hB⟩; have G24 := hide (And.intro (G23.out.1.trans (hB.mono G23.out.1.size)) trivial); clear hB)
                | (go_at_call 16; refine (KO.out.1 W22 G22.out.1).mono ?_; rintro e W23 ⟨rfl, hB⟩; have G23 := hide (And.intro (G22.out.1.trans (hB.mono G22.out.1.size)) trivial); clear hB)
                | (go_at_call 14; refine (KC.out.2 W21 G21.out.1).mono ?_; rintro e W22 ⟨rfl, hB⟩; have G22 := hide (And.intro (G21.out.1.trans (hB.mono G21.out.1.size)) trivial); clear hB)
                | (go_at_call 14; refine (KC.out.1 W20 G20.out.1).mono ?_; rintro e W21 ⟨rfl, hB⟩; have G21 := hide (And.intro (G20.out.1.trans (hB.mono G20.out.1.size)) trivial); clear hB))
              go_ret
              exact ⟨rfl, HYV.out.trans (G31.out.1.mono HYV.out.size)⟩
        · have hd : (E != 20) = true := by simp [hE20]
          obtain ⟨hPQ2, hcan⟩ := KD.out hE20
          have HC := hide (And.intro hPQ2 hcan)
          clear hPQ2 hcan
          clear hE20
          go_upto_region 12 with (first
            | (go_at_call 34; refine (KP.out.2 W1 J1.out.2).mono ?_; rintro e Z ⟨BA, bc, rfl, hp, hB⟩; have J2 := hide (And.intro (J1.out.1.below hB (Nat.le_refl _)) (And.intro hp (J1.out.2.trans (hB.mono J1.out.2.size)))); clear hp hB)
            | (go_at_call 34; refine (KP.out.1 V (Below.refl _ V)).mono ?_; rintro e W1 ⟨AA, ac, rfl, hp, hB⟩; have J1 := hide (And.intro hp hB); clear hp hB))
          go_upto_region 14 with fail
          go_upto_region 15 with (go_at_call 14; refine (KC.out.2 Z J2.out.2.2).mono ?_; rintro e Z2 ⟨rfl, hB⟩; have J3 := hide (And.intro (J2.out.1.below hB (Nat.le_refl _)) (And.intro (J2.out.2.1.below hB (Nat.le_refl _)) (J2.out.2.2.trans (hB.mono J2.out.2.2.size)))); clear hB)
          clear J1 J2
          go_upto_region 16 with fail
          go_loopw [108] (fun kv wr => ∃ k : Nat, k ≤ np ∧ kv = .int .i64 k ∧ Below Z2.heap.size Z2 wr) (fun kv _ => np - (intOf kv).toNat)
          case atStart => exact ⟨0, by omega, rfl, Below.refl _ Z2⟩
          case round =>
            obtain ⟨q, hq, rfl, hB⟩ := hrel
            obtain ⟨V2, rfl⟩ : ∃ x, x = wr := ⟨_, rfl⟩
            by_cases hlt : q < np
            · have i1 : (q : Int) < (np : Int) := by omega
              obtain ⟨p, hp⟩ : ∃ p, P[q]? = some p := ⟨_, List.getElem?_eq_getElem (by rw [← KN.out.1]; exact hlt)⟩
              have hpQ : Q[q]? = some p := by rw [← HC.out.1]; exact hp
              have hpm := KF.out.1 p (List.mem_of_getElem? hp)
              obtain ⟨ba, oa, A1, c1, hA1, hl1, x0, ho1⟩ := J3.out.1.piece hp
              obtain ⟨bb, ob, A2, c2, hA2, hl2, x1, ho2⟩ := J3.out.2.1.piece hpQ
              subst hA1 hA2
              have z0 := (hB.cell (p := ⟨ba, oa + q, none⟩) hl1).trans x0
              have z1 := (hB.cell (p := ⟨bb, ob + q, none⟩) hl2).trans x1
              have hla : ba < V2.heap.size := Nat.lt_of_lt_of_le hl1 hB.size
              have hlb : bb < V2.heap.size := Nat.lt_of_lt_of_le hl2 hB.size
              obtain ⟨pl, hpl⟩ : ∃ n, n = p.length := ⟨_, rfl⟩
              rw [← hpl] at x0 x1 z0 z1 ho1 ho2 hpm
              have hq9 : ∀ W, Below Z2.heap.size Z2 W → Calls Tryz.prog 29 #[.slice A1 pl c1, .slice A2 pl c2] W fun e w' => e = .returned (.bool true) ∧ ∃ k, w' = W.drewN k := fun W h =>
                shf_equal hpl hpm.2 (by have := KF.out.2.2.2.2.2; have := KF.out.2.2.2.2.1; omega) A1 A2 c1 c2 W _ _ ((ho1.sl encT_len (Nat.le_refl _)).below h) ((ho2.sl encT_len (Nat.le_refl _)).below h)
              have HQ := hide (And.intro hq9 hB)
              clear hq9 hB ho1 ho2 hpm hpl x0 x1 hp hpQ hl1 hl2
              go_upto_region 18 with fail
              go_still_tail 10, (by kernel_rfl)
              repeat still_step
              change wpList _ _ _ _ _ V2.drew
              go_wp2_with (go_at_call 29; refine (HQ.out.1 V2.drew HQ.out.2.drew).mono ?_; rintro e W3 ⟨rfl, kd, hw⟩; have H5 := hide (show Below Z2.heap.size Z2 W3 by rw [hw]; exact below_drewN HQ.out.2.drew kd); clear hw)
              go_roundw
              case rel => exact ⟨q + 1, by omega, by go_num, H5.out⟩
              case measure => (simp [intOf]; try omega)
            · obtain rfl : q = np := by omega
              have i1 : ¬ (q : Int) < (q : Int) := by omega
              have hYV := J3.out.2.2.trans (hB.mono J3.out.2.2.size)
              obtain ⟨W20, hW20⟩ : ∃ W, W = V2 := ⟨_, rfl⟩
              rw [← hW20] at hYV ⊢
              have G20 := hide (And.intro hYV trivial)
              clear hB hYV hW20 t0 J3
              go_wp2_with (first
                | (go_at_call 21; refine (KB.out.2.2 A4 A5 c4 c5 W34 _ _ G34.out.2.1 G34.out.2.2).mono ?_; rintro e W35 ⟨rfl, kd, hw⟩; have G35 := hide (And.intro (show Below V.heap.size V W35 by rw [hw]; exact below_drewN G34.out.1 kd) trivial); clear hw)
                | (go_at_call 22; refine (KB.out.2.1 W33 G33.out.1).mono ?_; rintro e W34 ⟨A5, c5, rfl, hx, hB⟩; have G34 := hide (And.intro (G33.out.1.trans (hB.mono G33.out.1.size)) (And.intro (G33.out.2.below hB) hx)); clear hx hB)
                | (go_at_call 22; refine (KB.out.1 W32 G32.out.1).mono ?_; rintro e W33 ⟨A4, c4, rfl, hx, hB⟩; have G33 := hide (And.intro (G32.out.1.trans (hB.mono G32.out.1.size)) hx); clear hx hB)
                | (go_at_call 26; refine (KV.out.2.1 W31 G31.out.1).mono ?_; rintro e W32 ⟨b2, u2, rfl, hv, hB⟩; obtain ⟨rfl, rfl⟩ := wide_pair G31.out.2 hv; have e9 := eqWd b1 u1 (wideN_size5 hv KV.out.2.2); have G32 := hide (And.intro (G31.out.1.trans (hB.mono G31.out.1.size)) trivial); clear hv hB)
                | (go_at_call 26; refine (KV.out.1 W30 G30.out.1).mono ?_; rintro e W31 ⟨b1, u1, rfl, hv, hB⟩; have G31 := hide (And.intro (G30.out.1.trans (hB.mono G30.out.1.size)) hv); clear hv hB)
                | (go_at_call 36; refine (KE.out.2 W29 G29.out.1).mono ?_; rintro e W30 ⟨rfl, hB⟩; have G30 := hide (And.intro (G29.out.1.trans (hB.mono G29.out.1.size)) trivial); clear hB)
                | (go_at_call 36; refine (KE.out.1 W28 G28.out.1).mono ?_; rintro e W29 ⟨rfl, hB⟩; have G29 := hide (And.intro (G28.out.1.trans (hB.mono G28.out.1.size)) trivial); clear hB)
                | (go_at_call 16; refine (KO.out.2 W27 G27.out.1).mono ?_; rintro e W28 ⟨rfl, hB⟩; have G28 := hide (And.intro (G27.out.1.trans (hB.mono G27.out.1.size)) trivial); clear hB)
                | (go_at_call 16; refine (KO.out.1 W26 G26.out.1).mono ?_; rintro e W27 ⟨rfl, hB⟩; have G27 := hide (And.intro (G26.out.1.trans (hB.mono G26.out.1.size)) trivial); clear hB)
                | (go_at_call 14; refine (KC.out.2 W25 G25.out.1).mono ?_; rintro e W26 ⟨rfl, hB⟩; have G26 := hide (And.intro (G25.out.1.trans (hB.mono G25.out.1.size)) trivial); clear hB)
                | (go_at_call 14; refine (KC.out.1 W24 G24.out.1).mono ?_; rintro e W25 ⟨rfl, hB⟩; have G25 := hide (And.intro (G24.out.1.trans (hB.mono G24.out.1.size)) trivial); clear hB)
                | (go_at_call 29; refine (shf_equal (C := canonO L0) (by rw [canonO_length]; exact KF.out.2.2.2.2.2) (fitsT_canon KF.out.2.2.2.1) (by omega) A6 A7 c6 c7 W23 _ _ G23.out.2.1 G23.out.2.2).mono ?_; rintro e W24 ⟨rfl, kd, hw⟩; have G24 := hide (And.intro (show Below V.heap.size V W24 by rw [hw]; exact below_drewN G23.out.1 kd) trivial); clear hw)
                | (go_at_call 30; refine (shf_canon (A := TA) (c := tc) KF.out.2.2.2.2.2 rfl (by omega) W22 (KL.out.2 W22 G22.out.1)).mono ?_; rintro e W23 ⟨A7, c7, rfl, hx, hB⟩; have G23 := hide (And.intro (G22.out.1.trans (hB.mono G22.out.1.size)) (And.intro (G22.out.2.below hB) hx)); clear hx hB)
                | (go_at_call 30; refine (shf_canon (A := As) (c := cs) KF.out.2.2.2.2.1 HC.out.2 (by omega) W21 (KL.out.1 W21 G21.out.1)).mono ?_; rintro e W22 ⟨A6, c6, rfl, hx, hB⟩; have G22 := hide (And.intro (G21.out.1.trans (hB.mono G21.out.1.size)) hx); clear hx hB)
                | (go_at_call 32; refine (shf_same (A := As) (c := cs) (B := TA) (d := tc) KF.out.2.2.2.2.1 KF.out.2.2.2.2.2 (by omega) KF.out.2.2.1 KF.out.2.2.2.1 HC.out.2 W20 (KL.out.1 W20 G20.out.1) (KL.out.2 W20 G20.out.1)).mono ?_; rintro e W21 ⟨rfl, hB⟩; have G21 := hide (And.intro (G20.out.1.trans (hB.mono G20.out.1.size)) trivial); clear hB))
              go_ret
              exact ⟨rfl, HYV.out.trans (G35.out.1.mono HYV.out.size)⟩
      · subst h2
        by_cases hE20 : E = 20
        · have hd : (E != 20) = false := by simp [hE20]
          clear hE20
          go_upto_region 12 with (first
            | (go_at_call 34; refine (KP.out.2 W1 J1.out.2).mono ?_; rintro e Z ⟨BA, bc, rfl, hp, hB⟩; have J2 := hide (And.intro (J1.out.1.below hB (Nat.le_refl _)) (And.intro hp (J1.out.2.trans (hB.mono J1.out.2.size)))); clear hp hB)
            | (go_at_call 34; refine (KP.out.1 V (Below.refl _ V)).mono ?_; rintro e W1 ⟨AA, ac, rfl, hp, hB⟩; have J1 := hide (And.intro hp hB); clear hp hB))
          go_upto_region 14 with fail
          go_upto_region 15 with (go_at_call 14; refine (KC.out.2 Z J2.out.2.2).mono ?_; rintro e Z2 ⟨rfl, hB⟩; have J3 := hide (And.intro (J2.out.1.below hB (Nat.le_refl _)) (And.intro (J2.out.2.1.below hB (Nat.le_refl _)) (J2.out.2.2.trans (hB.mono J2.out.2.2.size)))); clear hB)
          clear J1 J2
          go_upto_region 16 with fail
          go_loopw [108] (fun kv wr => ∃ k : Nat, k ≤ np ∧ kv = .int .i64 k ∧ Below Z2.heap.size Z2 wr) (fun kv _ => np - (intOf kv).toNat)
          case atStart => exact ⟨0, by omega, rfl, Below.refl _ Z2⟩
          case round =>
            obtain ⟨q, hq, rfl, hB⟩ := hrel
            obtain ⟨V2, rfl⟩ : ∃ x, x = wr := ⟨_, rfl⟩
            by_cases hlt : q < np
            · have i1 : (q : Int) < (np : Int) := by omega
              have HB := hide hB
              clear hB
              go_upto_region 18 with fail
              go_quiet (fail)
              go_wp2
              go_roundw
              case rel => exact ⟨q + 1, by omega, by go_num, below_drewN HB.out _⟩
              case measure => (simp [intOf]; try omega)
            · obtain rfl : q = np := by omega
              have i1 : ¬ (q : Int) < (q : Int) := by omega
              have hYV := J3.out.2.2.trans (hB.mono J3.out.2.2.size)
              obtain ⟨W20, hW20⟩ : ∃ W, W = V2 := ⟨_, rfl⟩
              rw [← hW20] at hYV ⊢
              have G20 := hide (And.intro hYV trivial)
              clear hB hYV hW20 t0 J3
              go_wp2_with (first
                | (go_at_call 21; refine (KB.out.2.2 A4 A5 c4 c5 W30 _ _ G30.out.2.1 G30.out.2.2).mono ?_; rintro e W31 ⟨rfl, kd, hw⟩; have G31 := hide (And.intro (show Below V.heap.size V W31 by rw [hw]; exact below_drewN G30.out.1 kd) trivial); clear hw)
                | (go_at_call 22; refine (KB.out.2.1 W29 G29.out.1).mono ?_; rintro e W30 ⟨A5, c5, rfl, hx, hB⟩; have G30 := hide (And.intro (G29.out.1.trans (hB.mono G29.out.1.size)) (And.intro (G29.out.2.below hB) hx)); clear hx hB)
                | (go_at_call 22; refine (KB.out.1 W28 G28.out.1).mono ?_; rintro e W29 ⟨A4, c4, rfl, hx, hB⟩; have G29 := hide (And.intro (G28.out.1.trans (hB.mono G28.out.1.size)) hx); clear hx hB)
                | (go_at_call 26; refine (KV.out.2.1 W27 G27.out.1).mono ?_; rintro e W28 ⟨b2, u2, rfl, hv, hB⟩; obtain ⟨rfl, rfl⟩ := wide_pair G27.out.2 hv; have e9 := eqWd b1 u1 (wideN_size5 hv KV.out.2.2); have G28 := hide (And.intro (G27.out.1.trans (hB.mono G27.out.1.size)) trivial); clear hv hB)
                | (go_at_call 26; refine (KV.out.1 W26 G26.out.1).mono ?_; rintro e W27 ⟨b1, u1, rfl, hv, hB⟩; have G27 := hide (And.intro (G26.out.1.trans (hB.mono G26.out.1.size)) hv); clear hv hB)
                | (go_at_call 36; refine (KE.out.2 W25 G25.out.1).mono ?_; rintro e W26 ⟨rfl, hB⟩; have G26 := hide (And.intro (G25.out.1.trans (hB.mono G25.out.1.size)) trivial); clear hB)
                | (go_at_call 36; refine (KE.out.1 W24 G24.out.1).mono ?_; rintro e W25 ⟨rfl, hB⟩; have G25 := hide (And.intro (G24.out.1.trans (hB.mono G24.out.1.size)) trivial); clear hB)
                | (go_at_call 16; refine (KO.out.2 W23 G23.out.1).mono ?_; rintro e W24 ⟨rfl, hB⟩; have G24 := hide (And.intro (G23.out.1.trans (hB.mono G23.out.1.size)) trivial); clear hB)
                | (go_at_call 16; refine (KO.out.1 W22 G22.out.1).mono ?_; rintro e W23 ⟨rfl, hB⟩; have G23 := hide (And.intro (G22.out.1.trans (hB.mono G22.out.1.size)) trivial); clear hB)
                | (go_at_call 14; refine (KC.out.2 W21 G21.out.1).mono ?_; rintro e W22 ⟨rfl, hB⟩; have G22 := hide (And.intro (G21.out.1.trans (hB.mono G21.out.1.size)) trivial); clear hB)
                | (go_at_call 14; refine (KC.out.1 W20 G20.out.1).mono ?_; rintro e W21 ⟨rfl, hB⟩; have G21 := hide (And.intro (G20.out.1.trans (hB.mono G20.out.1.size)) trivial); clear hB))
              go_ret
              exact ⟨rfl, HYV.out.trans (G31.out.1.mono HYV.out.size)⟩
        · have hd : (E != 20) = true := by simp [hE20]
          obtain ⟨hPQ2, hcan⟩ := KD.out hE20
          have HC := hide (And.intro hPQ2 hcan)
          clear hPQ2 hcan
          clear hE20
          go_upto_region 12 with (first
            | (go_at_call 34; refine (KP.out.2 W1 J1.out.2).mono ?_; rintro e Z ⟨BA, bc, rfl, hp, hB⟩; have J2 := hide (And.intro (J1.out.1.below hB (Nat.le_refl _)) (And.intro hp (J1.out.2.trans (hB.mono J1.out.2.size)))); clear hp hB)
            | (go_at_call 34; refine (KP.out.1 V (Below.refl _ V)).mono ?_; rintro e W1 ⟨AA, ac, rfl, hp, hB⟩; have J1 := hide (And.intro hp hB); clear hp hB))
          go_upto_region 14 with fail
          go_upto_region 15 with (go_at_call 14; refine (KC.out.2 Z J2.out.2.2).mono ?_; rintro e Z2 ⟨rfl, hB⟩; have J3 := hide (And.intro (J2.out.1.below hB (Nat.le_refl _)) (And.intro (J2.out.2.1.below hB (Nat.le_refl _)) (J2.out.2.2.trans (hB.mono J2.out.2.2.size)))); clear hB)
          clear J1 J2
          go_upto_region 16 with fail
          go_loopw [108] (fun kv wr => ∃ k : Nat, k ≤ np ∧ kv = .int .i64 k ∧ Below Z2.heap.size Z2 wr) (fun kv _ => np - (intOf kv).toNat)
          case atStart => exact ⟨0, by omega, rfl, Below.refl _ Z2⟩
          case round =>
            obtain ⟨q, hq, rfl, hB⟩ := hrel
            obtain ⟨V2, rfl⟩ : ∃ x, x = wr := ⟨_, rfl⟩
            by_cases hlt : q < np
            · have i1 : (q : Int) < (np : Int) := by omega
              obtain ⟨p, hp⟩ : ∃ p, P[q]? = some p := ⟨_, List.getElem?_eq_getElem (by rw [← KN.out.1]; exact hlt)⟩
              have hpQ : Q[q]? = some p := by rw [← HC.out.1]; exact hp
              have hpm := KF.out.1 p (List.mem_of_getElem? hp)
              obtain ⟨ba, oa, A1, c1, hA1, hl1, x0, ho1⟩ := J3.out.1.piece hp
              obtain ⟨bb, ob, A2, c2, hA2, hl2, x1, ho2⟩ := J3.out.2.1.piece hpQ
              subst hA1 hA2
              have z0 := (hB.cell (p := ⟨ba, oa + q, none⟩) hl1).trans x0
              have z1 := (hB.cell (p := ⟨bb, ob + q, none⟩) hl2).trans x1
              have hla : ba < V2.heap.size := Nat.lt_of_lt_of_le hl1 hB.size
              have hlb : bb < V2.heap.size := Nat.lt_of_lt_of_le hl2 hB.size
              obtain ⟨pl, hpl⟩ : ∃ n, n = p.length := ⟨_, rfl⟩
              rw [← hpl] at x0 x1 z0 z1 ho1 ho2 hpm
              have hq9 : ∀ W, Below Z2.heap.size Z2 W → Calls Tryz.prog 29 #[.slice A1 pl c1, .slice A2 pl c2] W fun e w' => e = .returned (.bool true) ∧ ∃ k, w' = W.drewN k := fun W h =>
                shf_equal hpl hpm.2 (by have := KF.out.2.2.2.2.2; have := KF.out.2.2.2.2.1; omega) A1 A2 c1 c2 W _ _ ((ho1.sl encT_len (Nat.le_refl _)).below h) ((ho2.sl encT_len (Nat.le_refl _)).below h)
              have HQ := hide (And.intro hq9 hB)
              clear hq9 hB ho1 ho2 hpm hpl x0 x1 hp hpQ hl1 hl2
              go_upto_region 18 with fail
              go_still_tail 10, (by kernel_rfl)
              repeat still_step
              change wpList _ _ _ _ _ V2.drew
              go_wp2_with (go_at_call 29; refine (HQ.out.1 V2.drew HQ.out.2.drew).mono ?_; rintro e W3 ⟨rfl, kd, hw⟩; have H5 := hide (show Below Z2.heap.size Z2 W3 by rw [hw]; exact below_drewN HQ.out.2.drew kd); clear hw)
              go_roundw
              case rel => exact ⟨q + 1, by omega, by go_num, H5.out⟩
              case measure => (simp [intOf]; try omega)
            · obtain rfl : q = np := by omega
              have i1 : ¬ (q : Int) < (q : Int) := by omega
              have hYV := J3.out.2.2.trans (hB.mono J3.out.2.2.size)
              obtain ⟨W20, hW20⟩ : ∃ W, W = V2 := ⟨_, rfl⟩
              rw [← hW20] at hYV ⊢
              have G20 := hide (And.intro hYV trivial)
              clear hB hYV hW20 t0 J3
              go_wp2_with (first
                | (go_at_call 21; refine (KB.out.2.2 A4 A5 c4 c5 W34 _ _ G34.out.2.1 G34.out.2.2).mono ?_; rintro e W35 ⟨rfl, kd, hw⟩; have G35 := hide (And.intro (show Below V.heap.size V W35 by rw [hw]; exact below_drewN G34.out.1 kd) trivial); clear hw)
                | (go_at_call 22; refine (KB.out.2.1 W33 G33.out.1).mono ?_; rintro e W34 ⟨A5, c5, rfl, hx, hB⟩; have G34 := hide (And.intro (G33.out.1.trans (hB.mono G33.out.1.size)) (And.intro (G33.out.2.below hB) hx)); clear hx hB)
                | (go_at_call 22; refine (KB.out.1 W32 G32.out.1).mono ?_; rintro e W33 ⟨A4, c4, rfl, hx, hB⟩; have G33 := hide (And.intro (G32.out.1.trans (hB.mono G32.out.1.size)) hx); clear hx hB)
                | (go_at_call 26; refine (KV.out.2.1 W31 G31.out.1).mono ?_; rintro e W32 ⟨b2, u2, rfl, hv, hB⟩; obtain ⟨rfl, rfl⟩ := wide_pair G31.out.2 hv; have e9 := eqWd b1 u1 (wideN_size5 hv KV.out.2.2); have G32 := hide (And.intro (G31.out.1.trans (hB.mono G31.out.1.size)) trivial); clear hv hB)
                | (go_at_call 26; refine (KV.out.1 W30 G30.out.1).mono ?_; rintro e W31 ⟨b1, u1, rfl, hv, hB⟩; have G31 := hide (And.intro (G30.out.1.trans (hB.mono G30.out.1.size)) hv); clear hv hB)
                | (go_at_call 36; refine (KE.out.2 W29 G29.out.1).mono ?_; rintro e W30 ⟨rfl, hB⟩; have G30 := hide (And.intro (G29.out.1.trans (hB.mono G29.out.1.size)) trivial); clear hB)
                | (go_at_call 36; refine (KE.out.1 W28 G28.out.1).mono ?_; rintro e W29 ⟨rfl, hB⟩; have G29 := hide (And.intro (G28.out.1.trans (hB.mono G28.out.1.size)) trivial); clear hB)
                | (go_at_call 16; refine (KO.out.2 W27 G27.out.1).mono ?_; rintro e W28 ⟨rfl, hB⟩; have G28 := hide (And.intro (G27.out.1.trans (hB.mono G27.out.1.size)) trivial); clear hB)
                | (go_at_call 16; refine (KO.out.1 W26 G26.out.1).mono ?_; rintro e W27 ⟨rfl, hB⟩; have G27 := hide (And.intro (G26.out.1.trans (hB.mono G26.out.1.size)) trivial); clear hB)
                | (go_at_call 14; refine (KC.out.2 W25 G25.out.1).mono ?_; rintro e W26 ⟨rfl, hB⟩; have G26 := hide (And.intro (G25.out.1.trans (hB.mono G25.out.1.size)) trivial); clear hB)
                | (go_at_call 14; refine (KC.out.1 W24 G24.out.1).mono ?_; rintro e W25 ⟨rfl, hB⟩; have G25 := hide (And.intro (G24.out.1.trans (hB.mono G24.out.1.size)) trivial); clear hB)
                | (go_at_call 29; refine (shf_equal (C := canonO L0) (by rw [canonO_length]; exact KF.out.2.2.2.2.2) (fitsT_canon KF.out.2.2.2.1) (by omega) A6 A7 c6 c7 W23 _ _ G23.out.2.1 G23.out.2.2).mono ?_; rintro e W24 ⟨rfl, kd, hw⟩; have G24 := hide (And.intro (show Below V.heap.size V W24 by rw [hw]; exact below_drewN G23.out.1 kd) trivial); clear hw)
                | (go_at_call 30; refine (shf_canon (A := TA) (c := tc) KF.out.2.2.2.2.2 rfl (by omega) W22 (KL.out.2 W22 G22.out.1)).mono ?_; rintro e W23 ⟨A7, c7, rfl, hx, hB⟩; have G23 := hide (And.intro (G22.out.1.trans (hB.mono G22.out.1.size)) (And.intro (G22.out.2.below hB) hx)); clear hx hB)
                | (go_at_call 30; refine (shf_canon (A := As) (c := cs) KF.out.2.2.2.2.1 HC.out.2 (by omega) W21 (KL.out.1 W21 G21.out.1)).mono ?_; rintro e W22 ⟨A6, c6, rfl, hx, hB⟩; have G22 := hide (And.intro (G21.out.1.trans (hB.mono G21.out.1.size)) hx); clear hx hB)
                | (go_at_call 32; refine (shf_same (A := As) (c := cs) (B := TA) (d := tc) KF.out.2.2.2.2.1 KF.out.2.2.2.2.2 (by omega) KF.out.2.2.1 KF.out.2.2.2.1 HC.out.2 W20 (KL.out.1 W20 G20.out.1) (KL.out.2 W20 G20.out.1)).mono ?_; rintro e W21 ⟨rfl, hB⟩; have G21 := hide (And.intro (G20.out.1.trans (hB.mono G20.out.1.size)) trivial); clear hB))
              go_ret
              exact ⟨rfl, HYV.out.trans (G35.out.1.mono HYV.out.size)⟩
end Go.Proofs.YtelfnmohpjkilaaGreatDoor
