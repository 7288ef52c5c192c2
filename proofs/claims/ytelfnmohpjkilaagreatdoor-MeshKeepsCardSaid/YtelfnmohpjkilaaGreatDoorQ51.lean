/- ShfP ShfQ. -/
import Derived.WalkKit
import Derived.WalkSpells
import Derived.WalkLawsBesides
import Derived.Laws.OwnMore
import Derived.Deep.AppendLies
import Derived.Deep.Draws
import Derived.Maps.AppendAt
import Derived.OwnWalk
import Derived.Sort.Grow
import Derived.Shelf.GgSortFunc.RowK
import Derived.RangeFuncNested
import Derived.RangeFuncBox
import Derived.Test.YtelfnmohpjkilaaGreatDoorRows
import Derived.Handy
import Derived.Maps.Own
import Derived.Maps.Views
import Derived.DeepKeys4
import Derived.DeepKeys
import Derived.Laws.StructEq
import Derived.Deep.QuietTactic
import Derived.BigQuiet
import Derived.LoopN
import Derived.Laws.EntriesVeiled
import Derived.Shelf.SlSortCmp.QuietGrown
import Derived.Deep.RegionHeld3
import Derived.Deep.DrawnRows
import Derived.Sort.Statements
import Derived.Shelf.SlSortCmp.NoneTotal
import Derived.OrdersHeld
import Derived.OrdersIn
import Derived.RangeFuncCalls
import Derived.OwnWalkIn
import Derived.Deep.CutBlock
import Derived.Deep.DeepCutAuto
import Derived.Test.YtelfnmohpjkilaaGreatDoorQ29
import Derived.Test.YtelfnmohpjkilaaGreatDoorQ40
import Derived.Test.YtelfnmohpjkilaaGreatDoorQ41
import Derived.Test.YtelfnmohpjkilaaGreatDoorQ48
namespace Go.Proofs.YtelfnmohpjkilaaGreatDoor
open Go.RowKit Go.Sort
def cyc3 (t : Tri) : Tri := (t.2.1, t.2.2, t.1)
def edOf (t : Tri) : Ed := (t.1, t.2.1)
theorem tri3_cyc (t : Tri) : (tri3 (cyc3 t)).Perm (tri3 t) := by
  show [(t.2.1, t.2.2, t.1), (t.2.2, t.1, t.2.1), (t.1, t.2.1, t.2.2)].Perm [t, (t.2.1, t.2.2, t.1), (t.2.2, t.1, t.2.1)]
  exact (List.perm_append_comm (l₁ := [(t.2.1, t.2.2, t.1), (t.2.2, t.1, t.2.1)]) (l₂ := [(t.1, t.2.1, t.2.2)]))
theorem edges_trip (l : List Tri) : edgesP l = (tripP l).map edOf := by
  unfold edgesP tripP
  induction l with
  | nil => rfl
  | cons t l ih => rw [List.flatMap_cons, List.flatMap_cons, List.map_append, ← ih]; rfl
theorem flat_trip (l : List Tri) : l.any flatT = (tripP l).any fun u => decide (u.1 = u.2.1) := by
  unfold tripP
  induction l with
  | nil => rfl
  | cons t l ih =>
    rw [List.any_cons, List.flatMap_cons, List.any_append, ← ih]
    congr 1
    simp [tri3, flatT, Bool.or_assoc]
theorem behK_of {t : Tri} {p q x : Pt} (h : behK t p q = some x) : (p, q, x) ∈ tri3 t := by
  unfold behK at h
  unfold tri3
  split at h
  · rename_i h1
    obtain ⟨rfl, rfl⟩ := h1
    injection h with h; subst h
    simp
  · split at h
    · rename_i h1
      obtain ⟨rfl, rfl⟩ := h1
      injection h with h; subst h
      simp
    · split at h
      · rename_i h1
        obtain ⟨rfl, rfl⟩ := h1
        injection h with h; subst h
        simp
      · cases h
theorem behP_of {l : List Tri} {p q x : Pt} (h : behP l p q = some x) : (p, q, x) ∈ tripP l := by
  unfold behP at h
  obtain ⟨t, ht, hb⟩ := List.exists_of_findSome?_eq_some h
  exact List.mem_flatMap.2 ⟨t, ht, behK_of hb⟩
theorem trip_one {l : List Tri} (hn : (edgesP l).Nodup) {p q x y : Pt} (hx : (p, q, x) ∈ tripP l) (hy : (p, q, y) ∈ tripP l) : x = y := by
  rw [edges_trip] at hn
  obtain ⟨i, hi⟩ := List.mem_iff_getElem?.1 hx
  obtain ⟨j, hj⟩ := List.mem_iff_getElem?.1 hy
  obtain ⟨hil, ei⟩ := List.getElem?_eq_some_iff.1 hi
  obtain ⟨hjl, ej⟩ := List.getElem?_eq_some_iff.1 hj
  have nd := List.pairwise_iff_getElem.1 hn
  rcases Nat.lt_trichotomy i j with h | h | h
  · exact absurd (by rw [List.getElem_map, List.getElem_map, ei, ej]; rfl) (nd i j (by simpa using hil) (by simpa using hjl) h)
  · subst h; rw [ei] at ej; injection ej with _ ej; injection ej
  · exact absurd (by rw [List.getElem_map, List.getElem_map, ei, ej]; rfl) (nd j i (by simpa using hjl) (by simpa using hil) h)
theorem behP_iff {l : List Tri} (hn : (edgesP l).Nodup) {p q x : Pt} : behP l p q = some x ↔ (p, q, x) ∈ tripP l := by
  constructor
  · exact behP_of
  · intro h
    have he : (p, q) ∈ edgesP l := by rw [edges_trip]; exact List.mem_map.2 ⟨_, h, rfl⟩
    obtain ⟨y, hy⟩ := behP_has he
    have hy' : behP l p q = some y := hy
    rw [hy', trip_one hn (behP_of hy') h]
theorem pinN_len (t : Tri) (p : Pt) : (pinN t p 3).length = (cors3 t).count p := by
  show ((List.range 3).flatMap fun i => if corner t i = p then [(t, corner t ((i + 1) % 3))] else []).length = [t.1, t.2.1, t.2.2].count p
  rw [show List.range 3 = [0, 1, 2] from rfl]
  simp only [List.flatMap_cons, List.flatMap_nil, List.append_nil, List.length_append, List.count_cons, List.count_nil]
  rw [show corner t 0 = t.1 from rfl, show corner t 1 = t.2.1 from rfl, show corner t 2 = t.2.2 from rfl]
  by_cases h1 : t.1 = p <;> by_cases h2 : t.2.1 = p <;> by_cases h3 : t.2.2 = p <;> simp [h1, h2, h3]
theorem cntC_count (l : List Tri) (p : Pt) : cntC l p = (corsP l).count p := by
  unfold cntC pinL corsP
  induction l with
  | nil => rfl
  | cons t l ih => rw [List.flatMap_cons, List.flatMap_cons, List.length_append, List.count_append, ← ih, pinN_len]
section
variable {s t : List Tri} (h : (tripP s).Perm (tripP t))
include h
theorem edges_perm : (edgesP s).Perm (edgesP t) := by rw [edges_trip, edges_trip]; exact h.map _
theorem cors_perm : (corsP s).Perm (corsP t) := by rw [cors_trip, cors_trip]; exact h.map _
theorem trip_length : s.length = t.length := by have := h.length_eq; rw [tripP_len, tripP_len] at this; omega
theorem flat_perm : s.any flatT = t.any flatT := by
  rw [flat_trip, flat_trip]
  exact h.any_eq
theorem behP_perm (hn : (edgesP t).Nodup) (p q : Pt) : behP s p q = behP t p q := by
  have hs : (edgesP s).Nodup := (edges_perm h).nodup_iff.2 hn
  cases ht : behP t p q with
  | some x => exact (behP_iff hs).2 (h.mem_iff.2 ((behP_iff hn).1 ht))
  | none =>
    cases hb : behP s p q with
    | none => rfl
    | some x =>
      have := (behP_iff hn).2 (h.mem_iff.1 ((behP_iff hs).1 hb))
      rw [ht] at this; cases this
theorem cntC_perm (p : Pt) : cntC s p = cntC t p := by rw [cntC_count, cntC_count]; exact (cors_perm h).count_eq p
theorem ringM_perm (hn : (edgesP t).Nodup) (e : Ed) : ringM s e = ringM t e := by
  unfold ringM
  rw [behP_perm h hn, cntC_perm h, show (fun q => behP s e.1 q) = fun q => behP t e.1 q from funext fun q => behP_perm h hn e.1 q]
theorem border_perm : borderP s = borderP t :=
  srt_uniq sto_E (border_both s).1 (border_both t).1 fun e => by
    rw [(border_both s).2, (border_both t).2, (edges_perm h).mem_iff, (edges_perm h).mem_iff]
theorem corners_perm : cornersP s = cornersP t :=
  srt_uniq sto_P (corners_both s).1 (corners_both t).1 fun q => by
    rw [(corners_both s).2, (corners_both t).2, (cors_perm h).mem_iff]
theorem check_perm (op : Bool) : checkP s op = checkP t op := by
  rw [check_is, check_is, flat_perm h, border_perm h]
  have hnd := (edges_perm h).nodup_iff
  by_cases hn : (edgesP t).Nodup
  · have hr : (edgesP s).any (ringM s) = (edgesP t).any (ringM t) := by
      rw [(edges_perm h).any_eq]
      exact congrArg _ (funext fun e => ringM_perm h hn e)
    rw [hr]
    simp only [hnd]
  · simp only [hnd]
    by_cases hf : t.any flatT = true
    · rw [if_pos hf, if_pos hf]
    · rw [if_neg hf, if_neg hf, if_pos hn, if_pos hn]
theorem dedup_len_perm : (dedup ((edgesP s).map normE)).length = (dedup ((edgesP t).map normE)).length := by
  refine List.Perm.length_eq ((List.perm_ext_iff_of_nodup (dedup_nodup _) (dedup_nodup _)).2 fun e => ?_)
  rw [dedup_mem, dedup_mem, ((edges_perm h).map normE).mem_iff]
theorem euler_perm : eulerP s = eulerP t := by
  unfold eulerP
  rw [corners_perm h, dedup_len_perm h, trip_length h]
end
end Go.Proofs.YtelfnmohpjkilaaGreatDoor
namespace Go.Proofs.YtelfnmohpjkilaaGreatDoor
open Go.RowKit Go.Sort
def distT4 (t : Tri) : Prop := t.1 ≠ t.2.1 ∧ t.2.1 ≠ t.2.2 ∧ t.2.2 ≠ t.1
theorem distT4_iff {t : Tri} : flatT t = false ↔ distT4 t := by
  unfold flatT distT4
  simp only [Bool.or_eq_false_iff, decide_eq_false_iff_not, and_assoc]
theorem ltP_not4 {a b : Pt} (h : a ≠ b) : ltP a b = !ltP b a := by
  cases h1 : ltP a b <;> cases h2 : ltP b a
  · exact absurd (sto_P.total _ _ h1 h2) h
  · rfl
  · rfl
  · have := sto_P.trans _ _ _ h1 h2; rw [sto_P.irrefl] at this; cases this
theorem rotT_cyc4 {t : Tri} (h : distT4 t) : rotT (cyc3 t) = rotT t := by
  obtain ⟨a, b, c⟩ := t
  obtain ⟨hab, hbc, hca⟩ := h
  simp only at hab hbc hca
  have e1 := ltP_not4 hbc.symm
  have e2 := ltP_not4 hca.symm
  have e3 := ltP_not4 hab.symm
  show (if ltP c b = true then (if ltP a c = true then (a, b, c) else (c, a, b)) else (if ltP a b = true then (a, b, c) else (b, c, a))) = (if ltP b a = true then (if ltP c b = true then (c, a, b) else (b, c, a)) else (if ltP c a = true then (c, a, b) else (a, b, c)))
  cases h1 : ltP a b <;> cases h2 : ltP b c <;> cases h3 : ltP c a <;> simp only [h1, h2, h3] at e1 e2 e3 <;> simp [e1, e2, e3]
  · have := sto_P.trans _ _ _ e1 e3
    have := sto_P.trans _ _ _ this e2
    rw [sto_P.irrefl] at this; cases this
  · have := sto_P.trans _ _ _ (sto_P.trans _ _ _ h1 h2) h3
    rw [sto_P.irrefl] at this; cases this
theorem distT4_cyc {t : Tri} (h : distT4 t) : distT4 (cyc3 t) := ⟨h.2.1, h.2.2, h.1⟩
theorem rotT_cases4 (t : Tri) : rotT t = t ∨ rotT t = cyc3 t ∨ rotT t = cyc3 (cyc3 t) := by
  obtain ⟨a, b, c⟩ := t
  unfold rotT
  split <;> split
  · exact .inr (.inr rfl)
  · exact .inr (.inl rfl)
  · exact .inr (.inr rfl)
  · exact .inl rfl
theorem rotT_tri3 {t u : Tri} (hd : distT4 t) (h : u ∈ tri3 t) : rotT u = rotT t := by
  simp only [tri3, List.mem_cons, List.not_mem_nil, or_false] at h
  rcases h with rfl | rfl | rfl
  · rfl
  · exact rotT_cyc4 hd
  · exact (rotT_cyc4 (distT4_cyc hd)).trans (rotT_cyc4 hd)
theorem tri3_self {x y : Tri} (h : y ∈ tri3 x) : (tri3 y).Perm (tri3 x) := by
  simp only [tri3, List.mem_cons, List.not_mem_nil, or_false] at h
  rcases h with rfl | rfl | rfl
  · exact List.Perm.refl _
  · exact tri3_cyc x
  · exact (tri3_cyc (cyc3 x)).trans (tri3_cyc x)
end Go.Proofs.YtelfnmohpjkilaaGreatDoor
