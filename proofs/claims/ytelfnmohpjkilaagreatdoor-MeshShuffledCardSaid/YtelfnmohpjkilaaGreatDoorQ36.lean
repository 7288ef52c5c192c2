/- PcsC. -/
import Derived.WalkKit
import Derived.WalkSpells
import Derived.WalkLawsBesides
import Derived.Laws.OwnMore
import Derived.Deep.AppendLies
import Derived.Deep.Draws
import Derived.Maps.AppendAt
import Derived.OwnWalk
import Derived.Sort.Grow
import Derived.Shelf.GgSortFunc.RowK
import Derived.RangeFuncNested
import Derived.RangeFuncBox
import Derived.Test.YtelfnmohpjkilaaGreatDoorRows
import Derived.Handy
import Derived.Maps.Own
import Derived.Maps.Views
import Derived.DeepKeys4
import Derived.DeepKeys
import Derived.Laws.StructEq
import Derived.Deep.QuietTactic
import Derived.BigQuiet
import Derived.LoopN
import Derived.Laws.EntriesVeiled
import Derived.Shelf.SlSortCmp.QuietGrown
import Derived.Deep.RegionHeld3
import Derived.Deep.DrawnRows
import Derived.Sort.Statements
import Derived.Shelf.SlSortCmp.NoneTotal
import Derived.OrdersHeld
import Derived.OrdersIn
import Derived.RangeFuncCalls
import Derived.OwnWalkIn
import Derived.Deep.CutBlock
import Derived.Deep.DeepCutAuto
import Derived.Maps.OwnSet
import Derived.Maps.RangeWalk
import Derived.WideKeyEntry
import Derived.IntWalk
import Derived.Deep.MidRow
import Derived.StillTailTactics
import Derived.Shelf.RegionOpen
import Derived.Deep.WholeRow
import Derived.Test.YtelfnmohpjkilaaGreatDoorQ35
namespace Go.Proofs.YtelfnmohpjkilaaGreatDoor
open Go.RowKit Go.Sort
theorem Pcs.piece {α : Type} {enc : α → List Value} {k : Nat} {e te : TypeId} {w : World} {base n cap : Nat} {A : Option Addr} {ps : List (List α)} (h : Pcs enc k e te w base (.slice A n cap) ps) {i : Nat} {p : List α} (hi : ps[i]? = some p) :
    ∃ b o A' c', A = some ⟨b, o, none⟩ ∧ b < w.heap.size ∧ w.cell? ⟨b, o + i, none⟩ = some (.slice A' p.length c') ∧ Own enc k e w base (.slice A' p.length c') p.length p := by
  obtain ⟨ss, ho, hp⟩ := h
  obtain ⟨A', c', hs, hO⟩ := hp i p hi
  obtain ⟨A2, c2, e2⟩ := ho.form
  obtain ⟨rfl, rfl, rfl⟩ : A = A2 ∧ n = ps.length ∧ cap = c2 := by simpa using e2
  obtain ⟨b, o, hA, hb, hc⟩ := (ho.sl encS_len (Nat.le_refl _)).at hs
  have h0 := hc 0 _ rfl
  rw [Nat.mul_one, Nat.add_zero] at h0
  exact ⟨b, o, A', c', hA, hb, h0, hO⟩
theorem parts_few {L : List Tri} {S : Nat → Nat → Bool} (_hS : ClsS (canonO L) S) : (partsT (canonO L) S (canonO L).length).length ≤ (canonO L).length := by
  rw [partsT_len]
  unfold headsI
  exact Nat.le_trans (List.length_filter_le _ _) (by rw [List.length_range]; exact Nat.le_refl _)
theorem parts_flat {L : List Tri} (hf : ∀ t ∈ L, fitsT t) {S : Nat → Nat → Bool} (hS : EqB S) :
    (∀ p ∈ partsT (canonO L) S (canonO L).length, p.length ≤ L.length ∧ ∀ t ∈ p, fitsT t) ∧ (partsT (canonO L) S (canonO L).length).flatten.length = L.length ∧ ∀ t ∈ (partsT (canonO L) S (canonO L).length).flatten, fitsT t := by
  have h1 := partsT_perm (c := canonO L) hS _ (Nat.le_refl _)
  rw [List.take_length] at h1
  have h2 : (partsT (canonO L) S (canonO L).length).flatten.length = L.length := h1.length_eq.trans (canonO_length L)
  have h3 : ∀ t ∈ (partsT (canonO L) S (canonO L).length).flatten, fitsT t := fun t ht => fitsT_canon hf t (h1.mem_iff.1 ht)
  refine ⟨fun p hp => ⟨?_, fun t ht => h3 t (List.mem_flatten.2 ⟨p, hp, ht⟩)⟩, h2, h3⟩
  rw [← h2]
  exact len_flat_mem hp
end Go.Proofs.YtelfnmohpjkilaaGreatDoor
