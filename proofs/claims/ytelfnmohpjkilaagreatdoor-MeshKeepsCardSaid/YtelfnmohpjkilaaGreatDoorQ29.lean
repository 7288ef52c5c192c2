/- ShfQ PrtP RfpP EulP. -/
import Derived.WalkKit
import Derived.WalkSpells
import Derived.WalkLawsBesides
import Derived.Laws.OwnMore
import Derived.Deep.AppendLies
import Derived.Deep.Draws
import Derived.Maps.AppendAt
import Derived.OwnWalk
import Derived.Sort.Grow
import Derived.Shelf.GgSortFunc.RowK
import Derived.RangeFuncNested
import Derived.RangeFuncBox
import Derived.Test.YtelfnmohpjkilaaGreatDoorRows
import Derived.Handy
import Derived.Maps.Own
import Derived.Maps.Views
import Derived.DeepKeys4
import Derived.DeepKeys
import Derived.Laws.StructEq
import Derived.Deep.QuietTactic
import Derived.BigQuiet
import Derived.LoopN
import Derived.Laws.EntriesVeiled
import Derived.Shelf.SlSortCmp.QuietGrown
import Derived.Deep.RegionHeld3
import Derived.Deep.DrawnRows
import Derived.Sort.Statements
import Derived.Shelf.SlSortCmp.NoneTotal
import Derived.OrdersHeld
import Derived.OrdersIn
import Derived.RangeFuncCalls
import Derived.OwnWalkIn
import Derived.Deep.CutBlock
import Derived.Deep.DeepCutAuto
import Derived.Test.YtelfnmohpjkilaaGreatDoorQ21
import Derived.Test.YtelfnmohpjkilaaGreatDoorQ28
namespace Go.Proofs.YtelfnmohpjkilaaGreatDoor
open Go.RowKit Go.Sort
theorem rotT_idem4 (t : Tri) : rotT (rotT t) = rotT t := by
  obtain ⟨a, b, c⟩ := t
  have h0 := sto_P.irrefl
  have htr := sto_P.trans
  have hto := sto_P.total
  show rotT (if ltP b a = true then (if ltP c b = true then (c, a, b) else (b, c, a)) else (if ltP c a = true then (c, a, b) else (a, b, c))) = (if ltP b a = true then (if ltP c b = true then (c, a, b) else (b, c, a)) else (if ltP c a = true then (c, a, b) else (a, b, c)))
  have as1 : ∀ x y, ltP x y = true → ltP y x = false := fun x y h => by
    cases h2 : ltP y x with
    | false => rfl
    | true => have := htr _ _ _ h h2; rw [h0] at this; cases this
  split <;> split
  · rename_i h1 h2
    have h3 := htr _ _ _ h2 h1
    show (if ltP a c = true then _ else (if ltP b c = true then _ else (c, a, b))) = _
    rw [as1 _ _ h3, as1 _ _ h2]; rfl
  · rename_i h1 h2
    have h2 : ltP c b = false := by simpa using h2
    show (if ltP c b = true then _ else (if ltP a b = true then _ else (b, c, a))) = _
    rw [h2, as1 _ _ h1]; rfl
  · rename_i h1 h2
    have h1 : ltP b a = false := by simpa using h1
    have h3 : ltP b c = false := by
      cases h3 : ltP b c with
      | false => rfl
      | true => have := htr _ _ _ h3 h2; rw [h1] at this; cases this
    show (if ltP a c = true then _ else (if ltP b c = true then _ else (c, a, b))) = _
    rw [as1 _ _ h2, h3]; rfl
  · rename_i h1 h2
    have h1 : ltP b a = false := by simpa using h1
    have h2 : ltP c a = false := by simpa using h2
    show (if ltP b a = true then _ else (if ltP c a = true then _ else (a, b, c))) = _
    rw [h1, h2]; rfl
end Go.Proofs.YtelfnmohpjkilaaGreatDoor
namespace Go.Proofs.YtelfnmohpjkilaaGreatDoor
open Go.RowKit Go.Sort
def hasE (e : Ed) (l : List Ed) : Bool := l.any fun x => decide (x = e)
theorem hasE_iff {e : Ed} {l : List Ed} : hasE e l = true ↔ e ∈ l := by unfold hasE; rw [List.any_eq_true]; simp
/-- Two triangles share an edge, run in opposite directions; or they are one. -/
def nearT (x y : Tri) : Bool := ((edges3 x).any fun e => hasE (swapE e) (edges3 y)) || decide (x = y)
theorem nearT_iff {x y : Tri} : nearT x y = true ↔ (∃ e ∈ edges3 x, swapE e ∈ edges3 y) ∨ x = y := by
  unfold nearT
  rw [Bool.or_eq_true, List.any_eq_true, decide_eq_true_eq]
  simp only [hasE_iff]
theorem nearT_self (x : Tri) : nearT x x = true := nearT_iff.2 (.inr rfl)
def nearI (c : List Tri) (i j : Nat) : Prop := ∃ x y, c[i]? = some x ∧ c[j]? = some y ∧ nearT x y = true
/-- S tells the classes of the list c. -/
def ClsS (c : List Tri) (S : Nat → Nat → Bool) : Prop := ∀ i j, S i j = true ↔ Eqv (nearI c) i j
theorem ClsS.some (c : List Tri) : ∃ S, ClsS c S := by
  haveI : ∀ i j, Decidable (Eqv (nearI c) i j) := fun _ _ => Classical.propDecidable _
  exact ⟨fun i j => decide (Eqv (nearI c) i j), fun i j => decide_eq_true_iff⟩
theorem ClsS.eqB {c : List Tri} {S : Nat → Nat → Bool} (h : ClsS c S) : EqB S :=
  ⟨fun a => (h a a).2 (Eqv.refl _ a), fun a b k => (h b a).2 ((h a b).1 k).symm, fun a b d k l => (h a d).2 (((h a b).1 k).trans ((h b d).1 l))⟩
/-- The parts as lists of triangles. -/
def pickL (c : List Tri) (p : List Nat) : List Tri := p.filterMap fun k => c[k]?
def partsT (c : List Tri) (S : Nat → Nat → Bool) (n : Nat) : List (List Tri) := (partsI S n).map (pickL c)
theorem pickL_snoc {c : List Tri} {k : Nat} {t : Tri} (h : c[k]? = some t) (p : List Nat) : pickL c (p ++ [k]) = pickL c p ++ [t] := by
  unfold pickL
  rw [List.filterMap_append, List.filterMap_cons, h]
  rfl
theorem partsT_len (c : List Tri) (S : Nat → Nat → Bool) (n : Nat) : (partsT c S n).length = (headsI S n).length := by
  unfold partsT partsI
  rw [List.length_map, List.length_map]
theorem partsT_new {c : List Tri} {S : Nat → Nat → Bool} (hS : EqB S) {n : Nat} {t : Tri} (ht : c[n]? = some t) (hn : headI S n = true) : partsT c S (n + 1) = partsT c S n ++ [[t]] := by
  unfold partsT
  rw [partsI_new hS hn, List.map_append]
  congr 1
  show [pickL c [n]] = _
  have := pickL_snoc ht []
  rw [List.nil_append] at this
  rw [this]; rfl
theorem partsT_old {c : List Tri} {S : Nat → Nat → Bool} (hS : EqB S) {n i h : Nat} {t : Tri} (ht : c[n]? = some t) (hi : (headsI S n)[i]? = some h) (hh : S h n = true) :
    ∃ p, (partsT c S n)[i]? = some p ∧ partsT c S (n + 1) = (partsT c S n).set i (p ++ [t]) := by
  obtain ⟨p, h1, h2⟩ := partsI_old hS hi hh
  refine ⟨pickL c p, by unfold partsT; rw [List.getElem?_map, h1]; rfl, ?_⟩
  unfold partsT
  rw [h2, List.map_set, pickL_snoc ht]
/-- A number for each class: its least member. -/
structure RootS (S : Nat → Nat → Bool) (R : Nat → Nat) : Prop where
  tells : ∀ i j, S i j = true ↔ R i = R j
  le : ∀ k, R k ≤ k
  fix : ∀ k, R (R k) = R k
theorem RootS.head {S : Nat → Nat → Bool} {R : Nat → Nat} (h : RootS S R) (k : Nat) : headI S k = true ↔ R k = k := by
  rw [headI_iff]
  constructor
  · intro hk
    refine Classical.byContradiction fun hne => ?_
    have h1 := h.le k
    have h2 := hk (R k) (by omega)
    have h3 := (h.tells (R k) k).2 (h.fix k)
    rw [h2] at h3; cases h3
  · intro hk j hj
    cases hb : S j k with
    | false => rfl
    | true =>
      have h1 := (h.tells j k).1 hb
      have h2 := h.le j
      omega
theorem RootS.at_head {S : Nat → Nat → Bool} {R : Nat → Nat} (h : RootS S R) {n : Nat} (hne : R n ≠ n) : R n ∈ headsI S n ∧ S (R n) n = true := by
  have h1 := h.le n
  exact ⟨headsI_mem.2 ⟨by omega, (h.head _).2 (h.fix n)⟩, (h.tells _ _).2 (h.fix n)⟩
theorem RootS.of_tells {c : List Tri} {S : Nat → Nat → Bool} {R : Nat → Nat} (hS : ClsS c S) (hT : Tells R (nearI c)) (hle : ∀ k, R k ≤ k) (hfix : ∀ k, R (R k) = R k) : RootS S R :=
  ⟨fun i j => (hS i j).trans (hT.iff i j).symm, hle, hfix⟩
theorem flat_set_perm {α : Type} {L : List (List α)} {i : Nat} {p : List α} {x : α} (h : L[i]? = some p) : ((L.set i (p ++ [x])).flatten).Perm (L.flatten ++ [x]) := by
  induction L generalizing i with
  | nil => simp at h
  | cons a L ih =>
    cases i with
    | zero =>
      simp only [List.getElem?_cons_zero, Option.some.injEq] at h
      subst h
      rw [List.set_cons_zero, List.flatten_cons, List.flatten_cons, List.append_assoc, List.append_assoc]
      exact List.Perm.append_left _ List.perm_append_comm
    | succ i =>
      rw [List.getElem?_cons_succ] at h
      rw [List.set_cons_succ, List.flatten_cons, List.flatten_cons, List.append_assoc]
      exact List.Perm.append_left _ (ih h)
theorem partsT_perm {c : List Tri} {S : Nat → Nat → Bool} (hS : EqB S) : ∀ n, n ≤ c.length → ((partsT c S n).flatten).Perm (c.take n)
  | 0, _ => by simp [partsT, partsI, headsI]
  | n + 1, hn => by
    obtain ⟨t, ht⟩ : ∃ t, c[n]? = some t := ⟨_, List.getElem?_eq_getElem (show n < c.length by omega)⟩
    have ih := partsT_perm (c := c) hS n (by omega)
    have e : c.take (n + 1) = c.take n ++ [t] := by rw [List.take_add_one, ht]; rfl
    rw [e]
    by_cases hh : headI S n = true
    · rw [partsT_new hS ht hh, List.flatten_append]
      exact ih.append_right _
    · obtain ⟨h, h1, h2, h3⟩ := head_of hS n
      have hlt : h < n := by
        rcases Nat.lt_or_ge h n with h4 | h4
        · exact h4
        · have : h = n := by omega
          subst this; exact absurd h2 hh
      obtain ⟨i, hi⟩ := List.mem_iff_getElem?.1 (headsI_mem.2 ⟨hlt, h2⟩)
      obtain ⟨p, h4, h5⟩ := partsT_old hS ht hi h3
      rw [h5]
      exact (flat_set_perm h4).trans (ih.append_right _)
end Go.Proofs.YtelfnmohpjkilaaGreatDoor
namespace Go.Proofs.YtelfnmohpjkilaaGreatDoor
open Go.RowKit Go.Sort
/-- What a list of numbers says of k. -/
def numR (xs : List Nat) (k : Nat) : Nat := (xs[k]?).getD k
/-- k, for each of t's first j edges that is e. -/
def occE (t : Tri) (e : Ed) (k j : Nat) : List Nat := ((edges3 t).take j).filterMap fun x => if x = e then some k else none
/-- The numbers of the triangles with edge e, in order, among the first K. -/
def withK (c : List Tri) (K : Nat) (e : Ed) : List Nat := (List.range K).flatMap fun i => match c[i]? with | some t => occE t e i 3 | none => []
def withE (c : List Tri) (e : Ed) : List Nat := withK c c.length e
theorem occE_mem {t : Tri} {e : Ed} {k x : Nat} : x ∈ occE t e k 3 ↔ x = k ∧ e ∈ edges3 t := by
  unfold occE
  rw [show (edges3 t).take 3 = edges3 t from rfl, List.mem_filterMap]
  constructor
  · rintro ⟨y, hy, h⟩
    split at h
    · rename_i he
      rw [← he]
      exact ⟨(Option.some.inj h).symm, hy⟩
    · cases h
  · rintro ⟨rfl, h⟩
    exact ⟨e, h, if_pos rfl⟩
theorem withK_mem {c : List Tri} {K : Nat} {e : Ed} {k : Nat} : k ∈ withK c K e ↔ k < K ∧ ∃ t, c[k]? = some t ∧ e ∈ edges3 t := by
  unfold withK
  rw [List.mem_flatMap]
  constructor
  · rintro ⟨i, hi, h⟩
    rw [List.mem_range] at hi
    cases hc : c[i]? with
    | none => rw [hc] at h; cases h
    | some t =>
      rw [hc] at h
      obtain ⟨rfl, h2⟩ := occE_mem.1 h
      exact ⟨hi, t, hc, h2⟩
  · rintro ⟨h1, t, h2, h3⟩
    exact ⟨k, List.mem_range.2 h1, by rw [h2]; exact occE_mem.2 ⟨rfl, h3⟩⟩
theorem withE_mem {c : List Tri} {e : Ed} {k : Nat} : k ∈ withE c e ↔ ∃ t, c[k]? = some t ∧ e ∈ edges3 t := by
  unfold withE
  rw [withK_mem]
  exact ⟨fun h => h.2, fun ⟨t, h1, h2⟩ => ⟨(List.getElem?_eq_some_iff.1 h1).1, t, h1, h2⟩⟩
/-- Under way in triangle K. -/
def withJ (c : List Tri) (K : Nat) (t : Tri) (j : Nat) (e : Ed) : List Nat := withK c K e ++ occE t e K j
theorem withJ_zero (c : List Tri) (K : Nat) (t : Tri) (e : Ed) : withJ c K t 0 e = withK c K e := by unfold withJ occE; simp
theorem withJ_step (c : List Tri) (K : Nat) (t : Tri) {j : Nat} {x : Ed} (hx : (edges3 t)[j]? = some x) (e : Ed) : withJ c K t (j + 1) e = if e = x then withJ c K t j x ++ [K] else withJ c K t j e := by
  have hs : (edges3 t).take (j + 1) = (edges3 t).take j ++ [x] := by rw [List.take_add_one, hx]; rfl
  unfold withJ occE
  rw [hs, List.filterMap_append]
  by_cases h : e = x
  · subst h
    rw [if_pos rfl, ← List.append_assoc]
    congr 1
    simp
  · rw [if_neg h]
    have : ¬ x = e := fun e' => h e'.symm
    simp [this]
theorem withJ_end {c : List Tri} {K : Nat} {t : Tri} (ht : c[K]? = some t) (e : Ed) : withJ c K t 3 e = withK c (K + 1) e := by
  unfold withJ withK
  rw [List.range_succ, List.flatMap_append]
  simp [ht]
theorem occE_len (t : Tri) (e : Ed) (k j : Nat) : (occE t e k j).length ≤ 3 := by
  unfold occE
  refine Nat.le_trans (List.length_filterMap_le _ _) ?_
  rw [List.length_take]
  have : (edges3 t).length = 3 := rfl
  omega
theorem withK_len (c : List Tri) (e : Ed) : ∀ K, (withK c K e).length ≤ 3 * K
  | 0 => by simp [withK]
  | K + 1 => by
    have ih := withK_len c e K
    unfold withK at ih ⊢
    rw [List.range_succ, List.flatMap_append, List.length_append]
    have : ([K].flatMap fun i => match c[i]? with | some t => occE t e i 3 | none => []).length ≤ 3 := by
      rw [List.flatMap_cons, List.flatMap_nil, List.append_nil]
      cases c[K]? with
      | none => exact Nat.zero_le _
      | some t => exact occE_len t e K 3
    omega
theorem withJ_len (c : List Tri) (K : Nat) (t : Tri) (j : Nat) (e : Ed) : (withJ c K t j e).length ≤ 3 * K + 3 := by
  unfold withJ
  rw [List.length_append]
  have := withK_len c e K
  have := occE_len t e K j
  omega
/-- Equal neighbours among the first K. -/
def jn1 (c : List Tri) (K : Nat) (i j : Nat) : Prop := j = i + 1 ∧ j < K ∧ ∃ t, c[i]? = some t ∧ c[j]? = some t
theorem jn1_zero (c : List Tri) : Tells (fun k => k) (jn1 c 0) := ⟨fun _ _ ⟨_, h, _⟩ => by omega, fun i j h => h ▸ Eqv.refl _ _⟩
theorem jn1_skip {c : List Tri} {K : Nat} {R : Nat → Nat} (h : Tells R (jn1 c K)) (hn : ∀ i, K = i + 1 → ¬ ∃ t, c[i]? = some t ∧ c[K]? = some t) : Tells R (jn1 c (K + 1)) :=
  h.same (fun a b ⟨h1, h2, h3⟩ => Eqv.of ⟨h1, by omega, h3⟩) fun a b ⟨h1, h2, h3⟩ => by
    rcases Nat.lt_or_ge b K with h4 | h4
    · exact Eqv.of ⟨h1, h4, h3⟩
    · obtain rfl : b = K := by omega
      exact absurd h3 (hn a h1)
theorem jn1_join {c : List Tri} {i : Nat} {R : Nat → Nat} {t : Tri} (h : Tells R (jn1 c (i + 1))) (h1 : c[i]? = some t) (h2 : c[i + 1]? = some t) : Tells (joinR R i (i + 1)) (jn1 c (i + 1 + 1)) :=
  (h.join i (i + 1)).same (fun a b hab => by
    rcases hab with ⟨h3, h4, h5⟩ | ⟨rfl, rfl⟩
    · exact Eqv.of ⟨h3, by omega, h5⟩
    · exact Eqv.of ⟨rfl, by omega, t, h1, h2⟩) fun a b ⟨h3, h4, h5⟩ => by
    rcases Nat.lt_or_ge b (i + 1) with h6 | h6
    · exact Eqv.of (.inl ⟨h3, h6, h5⟩)
    · obtain rfl : b = i + 1 := by omega
      obtain rfl : a = i := by omega
      exact Eqv.of (.inr ⟨rfl, rfl⟩)
/-- Joined across the edges done, and, at edge e, for the first m numbers. -/
def jn2 (c : List Tri) (D : Ed → Prop) (e : Ed) (m : Nat) (i j : Nat) : Prop := jn1 c c.length i j ∨ (∃ d, D d ∧ i ∈ withE c d ∧ (withE c (swapE d))[0]? = some j) ∨ ∃ q, q < m ∧ (withE c e)[q]? = some i ∧ (withE c (swapE e))[0]? = some j
theorem jn2_start {c : List Tri} {R : Nat → Nat} (h : Tells R (jn1 c c.length)) (e : Ed) : Tells R (jn2 c (fun _ => False) e 0) :=
  h.same (fun a b hab => Eqv.of (.inl hab)) fun a b hab => by
    rcases hab with h1 | ⟨d, h1, _⟩ | ⟨q, h1, _⟩
    · exact Eqv.of h1
    · exact absurd h1 (fun h => h)
    · omega
theorem jn2_edge {c : List Tri} {D : Ed → Prop} {R : Nat → Nat} {e : Ed} (h : Tells R (jn2 c D e 0)) (e' : Ed) : Tells R (jn2 c D e' 0) :=
  h.same (fun a b hab => by
    rcases hab with h1 | h1 | ⟨q, h1, _⟩
    · exact Eqv.of (.inl h1)
    · exact Eqv.of (.inr (.inl h1))
    · omega) fun a b hab => by
    rcases hab with h1 | h1 | ⟨q, h1, _⟩
    · exact Eqv.of (.inl h1)
    · exact Eqv.of (.inr (.inl h1))
    · omega
theorem jn2_none {c : List Tri} {D : Ed → Prop} {R : Nat → Nat} {e : Ed} {m : Nat} (h : Tells R (jn2 c D e m)) (hn : (withE c (swapE e))[0]? = none) : Tells R (jn2 c D e (m + 1)) :=
  h.same (fun a b hab => by
    rcases hab with h1 | h1 | ⟨q, h1, h2⟩
    · exact Eqv.of (.inl h1)
    · exact Eqv.of (.inr (.inl h1))
    · exact Eqv.of (.inr (.inr ⟨q, by omega, h2⟩))) fun a b hab => by
    rcases hab with h1 | h1 | ⟨q, h1, h2, h3⟩
    · exact Eqv.of (.inl h1)
    · exact Eqv.of (.inr (.inl h1))
    · rw [hn] at h3; cases h3
theorem jn2_join {c : List Tri} {D : Ed → Prop} {R : Nat → Nat} {e : Ed} {m k o : Nat} (h : Tells R (jn2 c D e m)) (hk : (withE c e)[m]? = some k) (ho : (withE c (swapE e))[0]? = some o) : Tells (joinR R k o) (jn2 c D e (m + 1)) :=
  (h.join k o).same (fun a b hab => by
    rcases hab with (h1 | h1 | ⟨q, h1, h2⟩) | ⟨rfl, rfl⟩
    · exact Eqv.of (.inl h1)
    · exact Eqv.of (.inr (.inl h1))
    · exact Eqv.of (.inr (.inr ⟨q, by omega, h2⟩))
    · exact Eqv.of (.inr (.inr ⟨m, by omega, hk, ho⟩))) fun a b hab => by
    rcases hab with h1 | h1 | ⟨q, h1, h2, h3⟩
    · exact Eqv.of (.inl (.inl h1))
    · exact Eqv.of (.inl (.inr (.inl h1)))
    · rcases Nat.lt_or_ge q m with h4 | h4
      · exact Eqv.of (.inl (.inr (.inr ⟨q, h4, h2, h3⟩)))
      · obtain rfl : q = m := by omega
        rw [hk] at h2; rw [ho] at h3
        exact Eqv.of (.inr ⟨(Option.some.inj h2).symm, (Option.some.inj h3).symm⟩)
theorem jn2_done {c : List Tri} {D D' : Ed → Prop} {R : Nat → Nat} {e : Ed} (h : Tells R (jn2 c D e (withE c e).length)) (hD : ∀ d, D' d ↔ D d ∨ d = e) : Tells R (jn2 c D' e 0) :=
  h.same (fun a b hab => by
    rcases hab with h1 | ⟨d, h1, h2⟩ | ⟨q, h1, h2, h3⟩
    · exact Eqv.of (.inl h1)
    · exact Eqv.of (.inr (.inl ⟨d, (hD d).2 (.inl h1), h2⟩))
    · exact Eqv.of (.inr (.inl ⟨e, (hD e).2 (.inr rfl), List.mem_of_getElem? h2, h3⟩))) fun a b hab => by
    rcases hab with h1 | ⟨d, h1, h2, h3⟩ | ⟨q, h1, _⟩
    · exact Eqv.of (.inl h1)
    · rcases (hD d).1 h1 with h4 | rfl
      · exact Eqv.of (.inr (.inl ⟨d, h4, h2, h3⟩))
      · obtain ⟨q, hq⟩ := List.mem_iff_getElem?.1 h2
        exact Eqv.of (.inr (.inr ⟨q, (List.getElem?_eq_some_iff.1 hq).1, hq, h3⟩))
    · omega
/-- What the program joins: equal neighbours in the list; each with the first one across. -/
def joinsE (c : List Tri) (i j : Nat) : Prop := (j = i + 1 ∧ ∃ t, c[i]? = some t ∧ c[j]? = some t) ∨ ∃ e, i ∈ withE c e ∧ (withE c (swapE e))[0]? = some j
theorem joins_near {c : List Tri} {i j : Nat} (h : joinsE c i j) : nearI c i j := by
  rcases h with ⟨_, t, h1, h2⟩ | ⟨e, h1, h2⟩
  · exact ⟨t, t, h1, h2, nearT_self t⟩
  · obtain ⟨x, h3, h4⟩ := withE_mem.1 h1
    obtain ⟨y, h5, h6⟩ := withE_mem.1 (List.mem_of_getElem? h2)
    exact ⟨x, y, h3, h5, nearT_iff.2 (.inl ⟨e, h4, h6⟩)⟩
theorem near_joins {c : List Tri} (hs : ∀ (i j k : Nat) (t : Tri), i < j → j < k → c[i]? = some t → c[k]? = some t → c[j]? = some t) {i j : Nat} (h : nearI c i j) : Eqv (joinsE c) i j := by
  obtain ⟨x, y, h1, h2, h3⟩ := h
  rcases nearT_iff.1 h3 with ⟨e, h4, h5⟩ | rfl
  · have hi : i ∈ withE c e := withE_mem.2 ⟨x, h1, h4⟩
    have hj : j ∈ withE c (swapE e) := withE_mem.2 ⟨y, h2, h5⟩
    obtain ⟨f, hf⟩ : ∃ f, (withE c e)[0]? = some f := ⟨_, List.getElem?_eq_getElem (List.length_pos_of_mem hi)⟩
    obtain ⟨g, hg⟩ : ∃ g, (withE c (swapE e))[0]? = some g := ⟨_, List.getElem?_eq_getElem (List.length_pos_of_mem hj)⟩
    have a1 : Eqv (joinsE c) i g := Eqv.of (.inr ⟨e, hi, hg⟩)
    have a2 : Eqv (joinsE c) f g := Eqv.of (.inr ⟨e, List.mem_of_getElem? hf, hg⟩)
    have a3 : Eqv (joinsE c) j f := Eqv.of (.inr ⟨swapE e, hj, by rw [swapE_swap]; exact hf⟩)
    exact a1.trans (a2.symm.trans a3.symm)
  · have step : ∀ (d i : Nat), c[i]? = some x → c[i + d]? = some x → Eqv (joinsE c) i (i + d) := by
      intro d
      induction d with
      | zero => intro i _ _; exact Eqv.refl _ _
      | succ d ih =>
        intro i h1 h2
        have h3 : c[i + 1]? = some x := by
          rcases Nat.eq_zero_or_pos d with rfl | hd
          · exact h2
          · exact hs i (i + 1) (i + (d + 1)) x (by omega) (by omega) h1 h2
        have h4 := ih (i + 1) h3 (by rw [show i + 1 + d = i + (d + 1) by omega]; exact h2)
        rw [show i + 1 + d = i + (d + 1) by omega] at h4
        exact (Eqv.of (.inl ⟨rfl, x, h1, h3⟩)).trans h4
    rcases Nat.le_total i j with hij | hij
    · have := step (j - i) i h1 (by rw [show i + (j - i) = j by omega]; exact h2)
      rwa [show i + (j - i) = j by omega] at this
    · have := step (i - j) j h2 (by rw [show j + (i - j) = i by omega]; exact h1)
      rw [show j + (i - j) = i by omega] at this
      exact this.symm
theorem tells_joins {c : List Tri} {R : Nat → Nat} (hs : ∀ (i j k : Nat) (t : Tri), i < j → j < k → c[i]? = some t → c[k]? = some t → c[j]? = some t) (h : Tells R (joinsE c)) : Tells R (nearI c) :=
  h.same (fun _ _ hab => Eqv.of (joins_near hab)) fun _ _ hab => near_joins hs hab
theorem jn2_end {c : List Tri} {D : Ed → Prop} {R : Nat → Nat} {e : Ed} (h : Tells R (jn2 c D e 0)) (hD : ∀ d, withE c d ≠ [] → D d) : Tells R (joinsE c) :=
  h.same (fun a b hab => by
    rcases hab with ⟨h1, _, h2⟩ | ⟨d, _, h2⟩ | ⟨q, h1, _⟩
    · exact Eqv.of (.inl ⟨h1, h2⟩)
    · exact Eqv.of (.inr ⟨d, h2⟩)
    · omega) fun a b hab => by
    rcases hab with ⟨h1, t, h2, h3⟩ | ⟨d, h1, h2⟩
    · exact Eqv.of (.inl ⟨h1, (List.getElem?_eq_some_iff.1 h3).1, t, h2, h3⟩)
    · exact Eqv.of (.inr (.inl ⟨d, hD d (List.ne_nil_of_mem h1), h1, h2⟩))
/-- In an ordered list equal ones stand together. -/
theorem canon_together (ts : List Tri) (i j k : Nat) (t : Tri) (hij : i < j) (hjk : j < k) (hi : (canonO ts)[i]? = some t) (hk : (canonO ts)[k]? = some t) : (canonO ts)[j]? = some t := by
  have hso : (canonO ts).Pairwise fun a b => leO ltT a b = true := tot_T.sorted (ts.map rotT)
  obtain ⟨i1, i2⟩ := List.getElem?_eq_some_iff.1 hi
  obtain ⟨k1, k2⟩ := List.getElem?_eq_some_iff.1 hk
  have hjl : j < (canonO ts).length := by omega
  have a := List.pairwise_iff_getElem.1 hso i j i1 hjl hij
  have b := List.pairwise_iff_getElem.1 hso j k hjl k1 hjk
  rw [i2] at a
  rw [k2] at b
  rw [List.getElem?_eq_getElem hjl]
  exact congrArg some (tot_T.anti _ _ b a)
end Go.Proofs.YtelfnmohpjkilaaGreatDoor
namespace Go.Proofs.YtelfnmohpjkilaaGreatDoor
/-- What a closed list gives: for each edge the number of the opposite one. -/
structure OppN (l : List Tri) (a : Nat → Nat) : Prop where
  bnd : ∀ k, k < 3 * l.length → a k < 3 * l.length
  opp : ∀ k u, (tripP l)[k]? = some u → ∃ y, (tripP l)[a k]? = some (u.2.1, u.1, y)
end Go.Proofs.YtelfnmohpjkilaaGreatDoor
