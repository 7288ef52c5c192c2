/- SortLaw Set9 Pcs Rot04 LessT Merge04 Sort04 Canon04 PrtP RfpP Nei Prt4. -/
import Derived.WalkKit
import Derived.WalkSpells
import Derived.WalkLawsBesides
import Derived.Laws.OwnMore
import Derived.Deep.AppendLies
import Derived.Deep.Draws
import Derived.Maps.AppendAt
import Derived.OwnWalk
import Derived.Sort.Grow
import Derived.Shelf.GgSortFunc.RowK
import Derived.RangeFuncNested
import Derived.RangeFuncBox
import Derived.Test.YtelfnmohpjkilaaGreatDoorRows
import Derived.Handy
import Derived.Maps.Own
import Derived.Maps.Views
import Derived.DeepKeys4
import Derived.DeepKeys
import Derived.Laws.StructEq
import Derived.Deep.QuietTactic
import Derived.BigQuiet
import Derived.LoopN
import Derived.Laws.EntriesVeiled
import Derived.Shelf.SlSortCmp.QuietGrown
import Derived.Deep.RegionHeld3
import Derived.Deep.DrawnRows
import Derived.Sort.Statements
import Derived.Shelf.SlSortCmp.NoneTotal
import Derived.OrdersHeld
import Derived.OrdersIn
import Derived.RangeFuncCalls
import Derived.OwnWalkIn
import Derived.Deep.CutBlock
import Derived.Deep.DeepCutAuto
import Derived.Maps.OwnSet
import Derived.Maps.RangeWalk
import Derived.WideKeyEntry
import Derived.IntWalk
import Derived.Deep.MidRow
import Derived.StillTailTactics
import Derived.Shelf.RegionOpen
import Derived.Deep.WholeRow
import Derived.Test.YtelfnmohpjkilaaGreatDoorQ31
import Derived.Test.YtelfnmohpjkilaaGreatDoorQ39
import Derived.Test.YtelfnmohpjkilaaGreatDoorQ49
namespace Go.Proofs.YtelfnmohpjkilaaGreatDoor
section
variable {α : Type} {lt : α → α → Bool}
theorem Tot.merge (h : Tot lt) (a b : List α) : List.merge (sortO lt a) (sortO lt b) (leO lt) = sortO lt (a ++ b) :=
  h.uniq ((List.merge_perm_append (le := leO lt)).trans ((sortO_perm a).append (sortO_perm b))) (List.pairwise_merge h.le_trans h.le_total _ _ (h.sorted a) (h.sorted b))
theorem Tot.halves (h : Tot lt) (l : List α) (n : Nat) : List.merge (sortO lt (l.take n)) (sortO lt (l.drop n)) (leO lt) = sortO lt l := by
  rw [h.merge, List.take_append_drop]
theorem sortO_short {l : List α} (h : l.length < 2) : sortO lt l = l := by
  match l, h with
  | [], _ => simp [sortO]
  | [a], _ => simp [sortO]
theorem merge_nil_right (le : α → α → Bool) (l : List α) : List.merge l [] le = l := by cases l <;> simp
/-- One step of Go's merge: the right one's head goes first. -/
theorem merge_right {a b : List α} {x y : α} {i j : Nat} (hx : a[i]? = some x) (hy : b[j]? = some y) (hl : lt y x = true) : List.merge (a.drop i) (b.drop j) (leO lt) = y :: List.merge (a.drop i) (b.drop (j + 1)) (leO lt) := by
  obtain ⟨hi, ex⟩ := List.getElem?_eq_some_iff.1 hx
  obtain ⟨hj, ey⟩ := List.getElem?_eq_some_iff.1 hy
  rw [List.drop_eq_getElem_cons hi, List.drop_eq_getElem_cons hj, ex, ey, List.cons_merge_cons, if_neg (by simp [leO, hl])]
theorem merge_left {a b : List α} {x : α} {i j : Nat} (hx : a[i]? = some x) (hl : ∀ y, b[j]? = some y → lt y x = false) : List.merge (a.drop i) (b.drop j) (leO lt) = x :: List.merge (a.drop (i + 1)) (b.drop j) (leO lt) := by
  obtain ⟨hi, ex⟩ := List.getElem?_eq_some_iff.1 hx
  rw [List.drop_eq_getElem_cons hi, ex]
  rcases Nat.lt_or_ge j b.length with hj | hj
  · have hy : b[j]? = some b[j] := List.getElem?_eq_getElem hj
    rw [List.drop_eq_getElem_cons hj, List.cons_merge_cons, if_pos (by simp [leO, hl _ hy])]
  · rw [List.drop_eq_nil_of_le hj, merge_nil_right, merge_nil_right]
theorem merge_end {a b : List α} {i j : Nat} (hi : a.length ≤ i) : List.merge (a.drop i) (b.drop j) (leO lt) = b.drop j := by
  rw [List.drop_eq_nil_of_le hi, List.nil_merge]
end
end Go.Proofs.YtelfnmohpjkilaaGreatDoor
namespace Go.Proofs.YtelfnmohpjkilaaGreatDoor
open Go.RowKit
theorem Blk.set9 {w : World} {g : Nat} {t : TypeId} {a0 a1 a2 a3 a4 a5 a6 a7 a8 : Value} (h : Blk w g t #[a0, a1, a2, a3, a4, a5, a6, a7, a8]) (x0 x1 x2 x3 x4 x5 x6 x7 x8 : Value) : Blk (((((((((w.setCell ⟨g, 0, none⟩ x0).setCell ⟨g, 1, none⟩ x1).setCell ⟨g, 2, none⟩ x2).setCell ⟨g, 3, none⟩ x3).setCell ⟨g, 4, none⟩ x4).setCell ⟨g, 5, none⟩ x5).setCell ⟨g, 6, none⟩ x6).setCell ⟨g, 7, none⟩ x7).setCell ⟨g, 8, none⟩ x8) g t #[x0, x1, x2, x3, x4, x5, x6, x7, x8] := by
  have := (((((((((h.set_ 0 x0).set_ 1 x1).set_ 2 x2).set_ 3 x3).set_ 4 x4).set_ 5 x5).set_ 6 x6).set_ 7 x7).set_ 8 x8)
  simp only [List.setIfInBounds_toArray, List.set_cons_succ, List.set_cons_zero] at this
  exact this
theorem below_set9 {w0 w : World} {n g : Nat} (hb : Below n w0 w) (hg : n ≤ g) (x0 x1 x2 x3 x4 x5 x6 x7 x8 : Value) : Below n w0 (((((((((w.setCell ⟨g, 0, none⟩ x0).setCell ⟨g, 1, none⟩ x1).setCell ⟨g, 2, none⟩ x2).setCell ⟨g, 3, none⟩ x3).setCell ⟨g, 4, none⟩ x4).setCell ⟨g, 5, none⟩ x5).setCell ⟨g, 6, none⟩ x6).setCell ⟨g, 7, none⟩ x7).setCell ⟨g, 8, none⟩ x8) := ((((((((hb.setCell (p := ⟨g, 0, none⟩) hg x0).setCell (p := ⟨g, 1, none⟩) hg x1).setCell (p := ⟨g, 2, none⟩) hg x2).setCell (p := ⟨g, 3, none⟩) hg x3).setCell (p := ⟨g, 4, none⟩) hg x4).setCell (p := ⟨g, 5, none⟩) hg x5).setCell (p := ⟨g, 6, none⟩) hg x6).setCell (p := ⟨g, 7, none⟩) hg x7).setCell (p := ⟨g, 8, none⟩) hg x8
end Go.Proofs.YtelfnmohpjkilaaGreatDoor
namespace Go.Proofs.YtelfnmohpjkilaaGreatDoor
open Go.RowKit Go.Sort

section
variable {α : Type} {enc : α → List Value} {k : Nat} {e te : TypeId} {w w' : World} {base : Nat} {v : Value} {n : Nat} {xs : List α} {ps : List (List α)}
theorem Pcs.nil : Pcs enc k e te w base (.slice none 0 0) ([] : List (List α)) := ⟨[], Own.nil, by simp⟩
theorem Pcs.base_le {b' : Nat} (h : Pcs enc k e te w base v ps) (hb : b' ≤ base) : Pcs enc k e te w b' v ps := by
  obtain ⟨ss, ho, hp⟩ := h
  refine ⟨ss, ho.base_le hb, fun i p hi => ?_⟩
  obtain ⟨A, c, hs, hO⟩ := hp i p hi
  exact ⟨A, c, hs, hO.base_le hb⟩
/-- One more piece: the outer slice has turned its own block at most. -/
theorem Pcs.snoc {ss : List Hdr} {v' : Value} {p : List α} {A : Option Addr} {c : Nat} (hte : te ≠ e) (ho : Own encS 1 te w base v ps.length ss)
    (hp : ∀ (i : Nat) (p : List α), ps[i]? = some p → ∃ A c, ss[i]? = some (A, p.length, c) ∧ Own enc k e w base (.slice A p.length c) p.length p) (hx : Own enc k e w base (.slice A p.length c) p.length p)
    (hg : w.grownBy w' v.ownBlock) (ho' : Own encS 1 te w' base v' (ps.length + 1) (ss ++ [(A, p.length, c)])) : Pcs enc k e te w' base v' (ps ++ [p]) := by
  have hne : ∀ r, v.ownBlock = some r → r < base ∨ ∀ cs, w.heap[r]? ≠ some (.cells cs e (0, 0)) := fun r hr => by
    obtain ⟨cs, hc⟩ := ho.cells r hr
    refine .inr fun cs' hc' => ?_
    rw [hc] at hc'
    cases hc'
    exact hte rfl
  have hlen : ps.length = ss.length := ho.1
  refine ⟨ss ++ [(A, p.length, c)], by simpa using ho', fun i q hi => ?_⟩
  by_cases hlt : i < ps.length
  · rw [List.getElem?_append_left hlt] at hi
    obtain ⟨A', c', hs, hO⟩ := hp i q hi
    exact ⟨A', c', by rw [List.getElem?_append_left (by omega)]; exact hs, hO.step hg hne⟩
  · have hi2 : i = ps.length := by
      have := (List.getElem?_eq_some_iff.1 hi).1
      simp at this; omega
    subst hi2
    simp at hi
    subst hi
    exact ⟨A, c, by rw [hlen]; simp, hx.step hg hne⟩
end


end Go.Proofs.YtelfnmohpjkilaaGreatDoor
namespace Go.Proofs.YtelfnmohpjkilaaGreatDoor
open Go.RowKit
def rotR (t : Tri) : Tri := if ltP t.2.2 t.1 && (ltP t.2.2 t.2.1 || !ltP t.2.1 t.1) then (t.2.2, t.1, t.2.1) else if ltP t.2.1 t.1 then (t.2.1, t.2.2, t.1) else t
set_option maxHeartbeats 2000000 in
theorem rotateR_any (t : Tri) (w : World) : Calls Tryz.prog 66 #[vT t] w fun e w' => e = .returned (vT (rotR t)) ∧ Below w.heap.size w w' := by
  go_enter Tryz.func66, Tryz.ntmps66
  go_wp2_with fail
  refine (rless_any t.2.1 t.1 _).mono ?_
  rintro e w1 ⟨rfl, hL1⟩
  have b0 : Blk w1 w.heap.size 58 #[.int .i64 t.1.1, .int .i64 t.1.2.1, .int .i64 t.1.2.2, .int .i64 t.2.1.1, .int .i64 t.2.1.2.1, .int .i64 t.2.1.2.2, .int .i64 t.2.2.1, .int .i64 t.2.2.2.1, .int .i64 t.2.2.2.2] := ((Blk.new _ _ _).alloc _).lay hL1
  have b1 : Blk w1 (w.heap.size + 1) 58 #[.int .i64 0, .int .i64 0, .int .i64 0, .int .i64 0, .int .i64 0, .int .i64 0, .int .i64 0, .int .i64 0, .int .i64 0] := (Blk.new' _ _ _ _ (by simp)).lay hL1
  have hL : Lay w w1 := (((Lay.refl _).alloc _).alloc _).trans hL1
  have a0 := b0.cell 0
  have a1 := b0.cell 1
  have a2 := b0.cell 2
  have a3 := b0.cell 3
  have a4 := b0.cell 4
  have a5 := b0.cell 5
  have a6 := b0.cell 6
  have a7 := b0.cell 7
  have a8 := b0.cell 8
  simp only [List.getElem?_toArray, List.getElem?_cons_zero, List.getElem?_cons_succ] at a0 a1 a2 a3 a4 a5 a6 a7 a8
  have H1 := hide (And.intro b0 (And.intro b1 hL))
  clear hL1 b0 b1 hL
  go_wp2_with fail
  refine (rless_any t.2.2 t.1 _).mono ?_
  rintro e w2 ⟨rfl, hL2⟩
  have b0 := H1.out.1.lay hL2
  have b1 := H1.out.2.1.lay hL2
  have hL := H1.out.2.2.trans hL2
  clear a0 a1 a2 a3 a4 a5 a6 a7 a8
  have c0 := b0.cell 0
  have c1 := b0.cell 1
  have c2 := b0.cell 2
  have c3 := b0.cell 3
  have c4 := b0.cell 4
  have c5 := b0.cell 5
  have c6 := b0.cell 6
  have c7 := b0.cell 7
  have c8 := b0.cell 8
  simp only [List.getElem?_toArray, List.getElem?_cons_zero, List.getElem?_cons_succ] at c0 c1 c2 c3 c4 c5 c6 c7 c8
  have H2 := hide (And.intro b0 (And.intro b1 hL))
  clear hL2 b0 b1 hL
  go_wp2_with fail
  refine (rless_any t.2.2 t.2.1 _).mono ?_
  rintro e w3 ⟨rfl, hL3⟩
  have b0 := H2.out.1.lay hL3
  have b1 := H2.out.2.1.lay hL3
  have hL := H2.out.2.2.trans hL3
  clear c0 c1 c2 c3 c4 c5 c6 c7 c8
  have d0 := b0.cell 0
  have d1 := b0.cell 1
  have d2 := b0.cell 2
  have d3 := b0.cell 3
  have d4 := b0.cell 4
  have d5 := b0.cell 5
  have d6 := b0.cell 6
  have d7 := b0.cell 7
  have d8 := b0.cell 8
  simp only [List.getElem?_toArray, List.getElem?_cons_zero, List.getElem?_cons_succ] at d0 d1 d2 d3 d4 d5 d6 d7 d8
  have r0 := b1.cell 0
  have r1 := b1.cell 1
  have r2 := b1.cell 2
  have r3 := b1.cell 3
  have r4 := b1.cell 4
  have r5 := b1.cell 5
  have r6 := b1.cell 6
  have r7 := b1.cell 7
  have r8 := b1.cell 8
  simp only [List.getElem?_toArray, List.getElem?_cons_zero, List.getElem?_cons_succ] at r0 r1 r2 r3 r4 r5 r6 r7 r8
  have f0 := b1.frozen 0
  have f1 := b1.frozen 1
  have f2 := b1.frozen 2
  have f3 := b1.frozen 3
  have f4 := b1.frozen 4
  have f5 := b1.frozen 5
  have f6 := b1.frozen 6
  have f7 := b1.frozen 7
  have f8 := b1.frozen 8
  have H3 := hide (And.intro b0 (And.intro b1 hL))
  clear hL3 b0 b1 hL
  cases h1 : ltP t.2.1 t.1 <;> cases h2 : ltP t.2.2 t.1 <;> cases h3 : ltP t.2.2 t.2.1
  · go_wp2_with fail
    have hR : Blk (((((((((w3.setCell ⟨w.heap.size + 1, 0, none⟩ (.int .i64 t.1.1)).setCell ⟨w.heap.size + 1, 1, none⟩ (.int .i64 t.1.2.1)).setCell ⟨w.heap.size + 1, 2, none⟩ (.int .i64 t.1.2.2)).setCell ⟨w.heap.size + 1, 3, none⟩ (.int .i64 t.2.1.1)).setCell ⟨w.heap.size + 1, 4, none⟩ (.int .i64 t.2.1.2.1)).setCell ⟨w.heap.size + 1, 5, none⟩ (.int .i64 t.2.1.2.2)).setCell ⟨w.heap.size + 1, 6, none⟩ (.int .i64 t.2.2.1)).setCell ⟨w.heap.size + 1, 7, none⟩ (.int .i64 t.2.2.2.1)).setCell ⟨w.heap.size + 1, 8, none⟩ (.int .i64 t.2.2.2.2)) (w.heap.size + 1) 58 #[.int .i64 t.1.1, .int .i64 t.1.2.1, .int .i64 t.1.2.2, .int .i64 t.2.1.1, .int .i64 t.2.1.2.1, .int .i64 t.2.1.2.2, .int .i64 t.2.2.1, .int .i64 t.2.2.2.1, .int .i64 t.2.2.2.2] := H3.out.2.1.set9 (.int .i64 t.1.1) (.int .i64 t.1.2.1) (.int .i64 t.1.2.2) (.int .i64 t.2.1.1) (.int .i64 t.2.1.2.1) (.int .i64 t.2.1.2.2) (.int .i64 t.2.2.1) (.int .i64 t.2.2.2.1) (.int .i64 t.2.2.2.2)
    have hBV : Below w.heap.size w (((((((((w3.setCell ⟨w.heap.size + 1, 0, none⟩ (.int .i64 t.1.1)).setCell ⟨w.heap.size + 1, 1, none⟩ (.int .i64 t.1.2.1)).setCell ⟨w.heap.size + 1, 2, none⟩ (.int .i64 t.1.2.2)).setCell ⟨w.heap.size + 1, 3, none⟩ (.int .i64 t.2.1.1)).setCell ⟨w.heap.size + 1, 4, none⟩ (.int .i64 t.2.1.2.1)).setCell ⟨w.heap.size + 1, 5, none⟩ (.int .i64 t.2.1.2.2)).setCell ⟨w.heap.size + 1, 6, none⟩ (.int .i64 t.2.2.1)).setCell ⟨w.heap.size + 1, 7, none⟩ (.int .i64 t.2.2.2.1)).setCell ⟨w.heap.size + 1, 8, none⟩ (.int .i64 t.2.2.2.2)) := below_set9 H3.out.2.2.below (by simp) (.int .i64 t.1.1) (.int .i64 t.1.2.1) (.int .i64 t.1.2.2) (.int .i64 t.2.1.1) (.int .i64 t.2.1.2.1) (.int .i64 t.2.1.2.2) (.int .i64 t.2.2.1) (.int .i64 t.2.2.2.1) (.int .i64 t.2.2.2.2)
    generalize (((((((((w3.setCell ⟨w.heap.size + 1, 0, none⟩ (.int .i64 t.1.1)).setCell ⟨w.heap.size + 1, 1, none⟩ (.int .i64 t.1.2.1)).setCell ⟨w.heap.size + 1, 2, none⟩ (.int .i64 t.1.2.2)).setCell ⟨w.heap.size + 1, 3, none⟩ (.int .i64 t.2.1.1)).setCell ⟨w.heap.size + 1, 4, none⟩ (.int .i64 t.2.1.2.1)).setCell ⟨w.heap.size + 1, 5, none⟩ (.int .i64 t.2.1.2.2)).setCell ⟨w.heap.size + 1, 6, none⟩ (.int .i64 t.2.2.1)).setCell ⟨w.heap.size + 1, 7, none⟩ (.int .i64 t.2.2.2.1)).setCell ⟨w.heap.size + 1, 8, none⟩ (.int .i64 t.2.2.2.2)) = V at hR hBV ⊢
    have s0 := hR.cell 0
    have s1 := hR.cell 1
    have s2 := hR.cell 2
    have s3 := hR.cell 3
    have s4 := hR.cell 4
    have s5 := hR.cell 5
    have s6 := hR.cell 6
    have s7 := hR.cell 7
    have s8 := hR.cell 8
    simp only [List.getElem?_toArray, List.getElem?_cons_zero, List.getElem?_cons_succ] at s0 s1 s2 s3 s4 s5 s6 s7 s8
    exact bodyPost_ret (v := vT (t.1, t.2.1, t.2.2)) (by simp [results, Tryz.results66, go_sem, s0, s1, s2, s3, s4, s5, s6, s7, s8]) rfl ⟨by simp [rotR, h1, h2, h3], hBV⟩
  · go_wp2_with fail
    have hR : Blk (((((((((w3.setCell ⟨w.heap.size + 1, 0, none⟩ (.int .i64 t.1.1)).setCell ⟨w.heap.size + 1, 1, none⟩ (.int .i64 t.1.2.1)).setCell ⟨w.heap.size + 1, 2, none⟩ (.int .i64 t.1.2.2)).setCell ⟨w.heap.size + 1, 3, none⟩ (.int .i64 t.2.1.1)).setCell ⟨w.heap.size + 1, 4, none⟩ (.int .i64 t.2.1.2.1)).setCell ⟨w.heap.size + 1, 5, none⟩ (.int .i64 t.2.1.2.2)).setCell ⟨w.heap.size + 1, 6, none⟩ (.int .i64 t.2.2.1)).setCell ⟨w.heap.size + 1, 7, none⟩ (.int .i64 t.2.2.2.1)).setCell ⟨w.heap.size + 1, 8, none⟩ (.int .i64 t.2.2.2.2)) (w.heap.size + 1) 58 #[.int .i64 t.1.1, .int .i64 t.1.2.1, .int .i64 t.1.2.2, .int .i64 t.2.1.1, .int .i64 t.2.1.2.1, .int .i64 t.2.1.2.2, .int .i64 t.2.2.1, .int .i64 t.2.2.2.1, .int .i64 t.2.2.2.2] := H3.out.2.1.set9 (.int .i64 t.1.1) (.int .i64 t.1.2.1) (.int .i64 t.1.2.2) (.int .i64 t.2.1.1) (.int .i64 t.2.1.2.1) (.int .i64 t.2.1.2.2) (.int .i64 t.2.2.1) (.int .i64 t.2.2.2.1) (.int .i64 t.2.2.2.2)
    have hBV : Below w.heap.size w (((((((((w3.setCell ⟨w.heap.size + 1, 0, none⟩ (.int .i64 t.1.1)).setCell ⟨w.heap.size + 1, 1, none⟩ (.int .i64 t.1.2.1)).setCell ⟨w.heap.size + 1, 2, none⟩ (.int .i64 t.1.2.2)).setCell ⟨w.heap.size + 1, 3, none⟩ (.int .i64 t.2.1.1)).setCell ⟨w.heap.size + 1, 4, none⟩ (.int .i64 t.2.1.2.1)).setCell ⟨w.heap.size + 1, 5, none⟩ (.int .i64 t.2.1.2.2)).setCell ⟨w.heap.size + 1, 6, none⟩ (.int .i64 t.2.2.1)).setCell ⟨w.heap.size + 1, 7, none⟩ (.int .i64 t.2.2.2.1)).setCell ⟨w.heap.size + 1, 8, none⟩ (.int .i64 t.2.2.2.2)) := below_set9 H3.out.2.2.below (by simp) (.int .i64 t.1.1) (.int .i64 t.1.2.1) (.int .i64 t.1.2.2) (.int .i64 t.2.1.1) (.int .i64 t.2.1.2.1) (.int .i64 t.2.1.2.2) (.int .i64 t.2.2.1) (.int .i64 t.2.2.2.1) (.int .i64 t.2.2.2.2)
    generalize (((((((((w3.setCell ⟨w.heap.size + 1, 0, none⟩ (.int .i64 t.1.1)).setCell ⟨w.heap.size + 1, 1, none⟩ (.int .i64 t.1.2.1)).setCell ⟨w.heap.size + 1, 2, none⟩ (.int .i64 t.1.2.2)).setCell ⟨w.heap.size + 1, 3, none⟩ (.int .i64 t.2.1.1)).setCell ⟨w.heap.size + 1, 4, none⟩ (.int .i64 t.2.1.2.1)).setCell ⟨w.heap.size + 1, 5, none⟩ (.int .i64 t.2.1.2.2)).setCell ⟨w.heap.size + 1, 6, none⟩ (.int .i64 t.2.2.1)).setCell ⟨w.heap.size + 1, 7, none⟩ (.int .i64 t.2.2.2.1)).setCell ⟨w.heap.size + 1, 8, none⟩ (.int .i64 t.2.2.2.2)) = V at hR hBV ⊢
    have s0 := hR.cell 0
    have s1 := hR.cell 1
    have s2 := hR.cell 2
    have s3 := hR.cell 3
    have s4 := hR.cell 4
    have s5 := hR.cell 5
    have s6 := hR.cell 6
    have s7 := hR.cell 7
    have s8 := hR.cell 8
    simp only [List.getElem?_toArray, List.getElem?_cons_zero, List.getElem?_cons_succ] at s0 s1 s2 s3 s4 s5 s6 s7 s8
    exact bodyPost_ret (v := vT (t.1, t.2.1, t.2.2)) (by simp [results, Tryz.results66, go_sem, s0, s1, s2, s3, s4, s5, s6, s7, s8]) rfl ⟨by simp [rotR, h1, h2, h3], hBV⟩
  · go_wp2_with fail
    have hR : Blk (((((((((w3.setCell ⟨w.heap.size + 1, 0, none⟩ (.int .i64 t.2.2.1)).setCell ⟨w.heap.size + 1, 1, none⟩ (.int .i64 t.2.2.2.1)).setCell ⟨w.heap.size + 1, 2, none⟩ (.int .i64 t.2.2.2.2)).setCell ⟨w.heap.size + 1, 3, none⟩ (.int .i64 t.1.1)).setCell ⟨w.heap.size + 1, 4, none⟩ (.int .i64 t.1.2.1)).setCell ⟨w.heap.size + 1, 5, none⟩ (.int .i64 t.1.2.2)).setCell ⟨w.heap.size + 1, 6, none⟩ (.int .i64 t.2.1.1)).setCell ⟨w.heap.size + 1, 7, none⟩ (.int .i64 t.2.1.2.1)).setCell ⟨w.heap.size + 1, 8, none⟩ (.int .i64 t.2.1.2.2)) (w.heap.size + 1) 58 #[.int .i64 t.2.2.1, .int .i64 t.2.2.2.1, .int .i64 t.2.2.2.2, .int .i64 t.1.1, .int .i64 t.1.2.1, .int .i64 t.1.2.2, .int .i64 t.2.1.1, .int .i64 t.2.1.2.1, .int .i64 t.2.1.2.2] := H3.out.2.1.set9 (.int .i64 t.2.2.1) (.int .i64 t.2.2.2.1) (.int .i64 t.2.2.2.2) (.int .i64 t.1.1) (.int .i64 t.1.2.1) (.int .i64 t.1.2.2) (.int .i64 t.2.1.1) (.int .i64 t.2.1.2.1) (.int .i64 t.2.1.2.2)
    have hBV : Below w.heap.size w (((((((((w3.setCell ⟨w.heap.size + 1, 0, none⟩ (.int .i64 t.2.2.1)).setCell ⟨w.heap.size + 1, 1, none⟩ (.int .i64 t.2.2.2.1)).setCell ⟨w.heap.size + 1, 2, none⟩ (.int .i64 t.2.2.2.2)).setCell ⟨w.heap.size + 1, 3, none⟩ (.int .i64 t.1.1)).setCell ⟨w.heap.size + 1, 4, none⟩ (.int .i64 t.1.2.1)).setCell ⟨w.heap.size + 1, 5, none⟩ (.int .i64 t.1.2.2)).setCell ⟨w.heap.size + 1, 6, none⟩ (.int .i64 t.2.1.1)).setCell ⟨w.heap.size + 1, 7, none⟩ (.int .i64 t.2.1.2.1)).setCell ⟨w.heap.size + 1, 8, none⟩ (.int .i64 t.2.1.2.2)) := below_set9 H3.out.2.2.below (by simp) (.int .i64 t.2.2.1) (.int .i64 t.2.2.2.1) (.int .i64 t.2.2.2.2) (.int .i64 t.1.1) (.int .i64 t.1.2.1) (.int .i64 t.1.2.2) (.int .i64 t.2.1.1) (.int .i64 t.2.1.2.1) (.int .i64 t.2.1.2.2)
    generalize (((((((((w3.setCell ⟨w.heap.size + 1, 0, none⟩ (.int .i64 t.2.2.1)).setCell ⟨w.heap.size + 1, 1, none⟩ (.int .i64 t.2.2.2.1)).setCell ⟨w.heap.size + 1, 2, none⟩ (.int .i64 t.2.2.2.2)).setCell ⟨w.heap.size + 1, 3, none⟩ (.int .i64 t.1.1)).setCell ⟨w.heap.size + 1, 4, none⟩ (.int .i64 t.1.2.1)).setCell ⟨w.heap.size + 1, 5, none⟩ (.int .i64 t.1.2.2)).setCell ⟨w.heap.size + 1, 6, none⟩ (.int .i64 t.2.1.1)).setCell ⟨w.heap.size + 1, 7, none⟩ (.int .i64 t.2.1.2.1)).setCell ⟨w.heap.size + 1, 8, none⟩ (.int .i64 t.2.1.2.2)) = V at hR hBV ⊢
    have s0 := hR.cell 0
    have s1 := hR.cell 1
    have s2 := hR.cell 2
    have s3 := hR.cell 3
    have s4 := hR.cell 4
    have s5 := hR.cell 5
    have s6 := hR.cell 6
    have s7 := hR.cell 7
    have s8 := hR.cell 8
    simp only [List.getElem?_toArray, List.getElem?_cons_zero, List.getElem?_cons_succ] at s0 s1 s2 s3 s4 s5 s6 s7 s8
    exact bodyPost_ret (v := vT (t.2.2, t.1, t.2.1)) (by simp [results, Tryz.results66, go_sem, s0, s1, s2, s3, s4, s5, s6, s7, s8]) rfl ⟨by simp [rotR, h1, h2, h3], hBV⟩
  · go_wp2_with fail
    have hR : Blk (((((((((w3.setCell ⟨w.heap.size + 1, 0, none⟩ (.int .i64 t.2.2.1)).setCell ⟨w.heap.size + 1, 1, none⟩ (.int .i64 t.2.2.2.1)).setCell ⟨w.heap.size + 1, 2, none⟩ (.int .i64 t.2.2.2.2)).setCell ⟨w.heap.size + 1, 3, none⟩ (.int .i64 t.1.1)).setCell ⟨w.heap.size + 1, 4, none⟩ (.int .i64 t.1.2.1)).setCell ⟨w.heap.size + 1, 5, none⟩ (.int .i64 t.1.2.2)).setCell ⟨w.heap.size + 1, 6, none⟩ (.int .i64 t.2.1.1)).setCell ⟨w.heap.size + 1, 7, none⟩ (.int .i64 t.2.1.2.1)).setCell ⟨w.heap.size + 1, 8, none⟩ (.int .i64 t.2.1.2.2)) (w.heap.size + 1) 58 #[.int .i64 t.2.2.1, .int .i64 t.2.2.2.1, .int .i64 t.2.2.2.2, .int .i64 t.1.1, .int .i64 t.1.2.1, .int .i64 t.1.2.2, .int .i64 t.2.1.1, .int .i64 t.2.1.2.1, .int .i64 t.2.1.2.2] := H3.out.2.1.set9 (.int .i64 t.2.2.1) (.int .i64 t.2.2.2.1) (.int .i64 t.2.2.2.2) (.int .i64 t.1.1) (.int .i64 t.1.2.1) (.int .i64 t.1.2.2) (.int .i64 t.2.1.1) (.int .i64 t.2.1.2.1) (.int .i64 t.2.1.2.2)
    have hBV : Below w.heap.size w (((((((((w3.setCell ⟨w.heap.size + 1, 0, none⟩ (.int .i64 t.2.2.1)).setCell ⟨w.heap.size + 1, 1, none⟩ (.int .i64 t.2.2.2.1)).setCell ⟨w.heap.size + 1, 2, none⟩ (.int .i64 t.2.2.2.2)).setCell ⟨w.heap.size + 1, 3, none⟩ (.int .i64 t.1.1)).setCell ⟨w.heap.size + 1, 4, none⟩ (.int .i64 t.1.2.1)).setCell ⟨w.heap.size + 1, 5, none⟩ (.int .i64 t.1.2.2)).setCell ⟨w.heap.size + 1, 6, none⟩ (.int .i64 t.2.1.1)).setCell ⟨w.heap.size + 1, 7, none⟩ (.int .i64 t.2.1.2.1)).setCell ⟨w.heap.size + 1, 8, none⟩ (.int .i64 t.2.1.2.2)) := below_set9 H3.out.2.2.below (by simp) (.int .i64 t.2.2.1) (.int .i64 t.2.2.2.1) (.int .i64 t.2.2.2.2) (.int .i64 t.1.1) (.int .i64 t.1.2.1) (.int .i64 t.1.2.2) (.int .i64 t.2.1.1) (.int .i64 t.2.1.2.1) (.int .i64 t.2.1.2.2)
    generalize (((((((((w3.setCell ⟨w.heap.size + 1, 0, none⟩ (.int .i64 t.2.2.1)).setCell ⟨w.heap.size + 1, 1, none⟩ (.int .i64 t.2.2.2.1)).setCell ⟨w.heap.size + 1, 2, none⟩ (.int .i64 t.2.2.2.2)).setCell ⟨w.heap.size + 1, 3, none⟩ (.int .i64 t.1.1)).setCell ⟨w.heap.size + 1, 4, none⟩ (.int .i64 t.1.2.1)).setCell ⟨w.heap.size + 1, 5, none⟩ (.int .i64 t.1.2.2)).setCell ⟨w.heap.size + 1, 6, none⟩ (.int .i64 t.2.1.1)).setCell ⟨w.heap.size + 1, 7, none⟩ (.int .i64 t.2.1.2.1)).setCell ⟨w.heap.size + 1, 8, none⟩ (.int .i64 t.2.1.2.2)) = V at hR hBV ⊢
    have s0 := hR.cell 0
    have s1 := hR.cell 1
    have s2 := hR.cell 2
    have s3 := hR.cell 3
    have s4 := hR.cell 4
    have s5 := hR.cell 5
    have s6 := hR.cell 6
    have s7 := hR.cell 7
    have s8 := hR.cell 8
    simp only [List.getElem?_toArray, List.getElem?_cons_zero, List.getElem?_cons_succ] at s0 s1 s2 s3 s4 s5 s6 s7 s8
    exact bodyPost_ret (v := vT (t.2.2, t.1, t.2.1)) (by simp [results, Tryz.results66, go_sem, s0, s1, s2, s3, s4, s5, s6, s7, s8]) rfl ⟨by simp [rotR, h1, h2, h3], hBV⟩
  · go_wp2_with fail
    have hR : Blk (((((((((w3.setCell ⟨w.heap.size + 1, 0, none⟩ (.int .i64 t.2.1.1)).setCell ⟨w.heap.size + 1, 1, none⟩ (.int .i64 t.2.1.2.1)).setCell ⟨w.heap.size + 1, 2, none⟩ (.int .i64 t.2.1.2.2)).setCell ⟨w.heap.size + 1, 3, none⟩ (.int .i64 t.2.2.1)).setCell ⟨w.heap.size + 1, 4, none⟩ (.int .i64 t.2.2.2.1)).setCell ⟨w.heap.size + 1, 5, none⟩ (.int .i64 t.2.2.2.2)).setCell ⟨w.heap.size + 1, 6, none⟩ (.int .i64 t.1.1)).setCell ⟨w.heap.size + 1, 7, none⟩ (.int .i64 t.1.2.1)).setCell ⟨w.heap.size + 1, 8, none⟩ (.int .i64 t.1.2.2)) (w.heap.size + 1) 58 #[.int .i64 t.2.1.1, .int .i64 t.2.1.2.1, .int .i64 t.2.1.2.2, .int .i64 t.2.2.1, .int .i64 t.2.2.2.1, .int .i64 t.2.2.2.2, .int .i64 t.1.1, .int .i64 t.1.2.1, .int .i64 t.1.2.2] := H3.out.2.1.set9 (.int .i64 t.2.1.1) (.int .i64 t.2.1.2.1) (.int .i64 t.2.1.2.2) (.int .i64 t.2.2.1) (.int .i64 t.2.2.2.1) (.int .i64 t.2.2.2.2) (.int .i64 t.1.1) (.int .i64 t.1.2.1) (.int .i64 t.1.2.2)
    have hBV : Below w.heap.size w (((((((((w3.setCell ⟨w.heap.size + 1, 0, none⟩ (.int .i64 t.2.1.1)).setCell ⟨w.heap.size + 1, 1, none⟩ (.int .i64 t.2.1.2.1)).setCell ⟨w.heap.size + 1, 2, none⟩ (.int .i64 t.2.1.2.2)).setCell ⟨w.heap.size + 1, 3, none⟩ (.int .i64 t.2.2.1)).setCell ⟨w.heap.size + 1, 4, none⟩ (.int .i64 t.2.2.2.1)).setCell ⟨w.heap.size + 1, 5, none⟩ (.int .i64 t.2.2.2.2)).setCell ⟨w.heap.size + 1, 6, none⟩ (.int .i64 t.1.1)).setCell ⟨w.heap.size + 1, 7, none⟩ (.int .i64 t.1.2.1)).setCell ⟨w.heap.size + 1, 8, none⟩ (.int .i64 t.1.2.2)) := below_set9 H3.out.2.2.below (by simp) (.int .i64 t.2.1.1) (.int .i64 t.2.1.2.1) (.int .i64 t.2.1.2.2) (.int .i64 t.2.2.1) (.int .i64 t.2.2.2.1) (.int .i64 t.2.2.2.2) (.int .i64 t.1.1) (.int .i64 t.1.2.1) (.int .i64 t.1.2.2)
    generalize (((((((((w3.setCell ⟨w.heap.size + 1, 0, none⟩ (.int .i64 t.2.1.1)).setCell ⟨w.heap.size + 1, 1, none⟩ (.int .i64 t.2.1.2.1)).setCell ⟨w.heap.size + 1, 2, none⟩ (.int .i64 t.2.1.2.2)).setCell ⟨w.heap.size + 1, 3, none⟩ (.int .i64 t.2.2.1)).setCell ⟨w.heap.size + 1, 4, none⟩ (.int .i64 t.2.2.2.1)).setCell ⟨w.heap.size + 1, 5, none⟩ (.int .i64 t.2.2.2.2)).setCell ⟨w.heap.size + 1, 6, none⟩ (.int .i64 t.1.1)).setCell ⟨w.heap.size + 1, 7, none⟩ (.int .i64 t.1.2.1)).setCell ⟨w.heap.size + 1, 8, none⟩ (.int .i64 t.1.2.2)) = V at hR hBV ⊢
    have s0 := hR.cell 0
    have s1 := hR.cell 1
    have s2 := hR.cell 2
    have s3 := hR.cell 3
    have s4 := hR.cell 4
    have s5 := hR.cell 5
    have s6 := hR.cell 6
    have s7 := hR.cell 7
    have s8 := hR.cell 8
    simp only [List.getElem?_toArray, List.getElem?_cons_zero, List.getElem?_cons_succ] at s0 s1 s2 s3 s4 s5 s6 s7 s8
    exact bodyPost_ret (v := vT (t.2.1, t.2.2, t.1)) (by simp [results, Tryz.results66, go_sem, s0, s1, s2, s3, s4, s5, s6, s7, s8]) rfl ⟨by simp [rotR, h1, h2, h3], hBV⟩
  · go_wp2_with fail
    have hR : Blk (((((((((w3.setCell ⟨w.heap.size + 1, 0, none⟩ (.int .i64 t.2.1.1)).setCell ⟨w.heap.size + 1, 1, none⟩ (.int .i64 t.2.1.2.1)).setCell ⟨w.heap.size + 1, 2, none⟩ (.int .i64 t.2.1.2.2)).setCell ⟨w.heap.size + 1, 3, none⟩ (.int .i64 t.2.2.1)).setCell ⟨w.heap.size + 1, 4, none⟩ (.int .i64 t.2.2.2.1)).setCell ⟨w.heap.size + 1, 5, none⟩ (.int .i64 t.2.2.2.2)).setCell ⟨w.heap.size + 1, 6, none⟩ (.int .i64 t.1.1)).setCell ⟨w.heap.size + 1, 7, none⟩ (.int .i64 t.1.2.1)).setCell ⟨w.heap.size + 1, 8, none⟩ (.int .i64 t.1.2.2)) (w.heap.size + 1) 58 #[.int .i64 t.2.1.1, .int .i64 t.2.1.2.1, .int .i64 t.2.1.2.2, .int .i64 t.2.2.1, .int .i64 t.2.2.2.1, .int .i64 t.2.2.2.2, .int .i64 t.1.1, .int .i64 t.1.2.1, .int .i64 t.1.2.2] := H3.out.2.1.set9 (.int .i64 t.2.1.1) (.int .i64 t.2.1.2.1) (.int .i64 t.2.1.2.2) (.int .i64 t.2.2.1) (.int .i64 t.2.2.2.1) (.int .i64 t.2.2.2.2) (.int .i64 t.1.1) (.int .i64 t.1.2.1) (.int .i64 t.1.2.2)
    have hBV : Below w.heap.size w (((((((((w3.setCell ⟨w.heap.size + 1, 0, none⟩ (.int .i64 t.2.1.1)).setCell ⟨w.heap.size + 1, 1, none⟩ (.int .i64 t.2.1.2.1)).setCell ⟨w.heap.size + 1, 2, none⟩ (.int .i64 t.2.1.2.2)).setCell ⟨w.heap.size + 1, 3, none⟩ (.int .i64 t.2.2.1)).setCell ⟨w.heap.size + 1, 4, none⟩ (.int .i64 t.2.2.2.1)).setCell ⟨w.heap.size + 1, 5, none⟩ (.int .i64 t.2.2.2.2)).setCell ⟨w.heap.size + 1, 6, none⟩ (.int .i64 t.1.1)).setCell ⟨w.heap.size + 1, 7, none⟩ (.int .i64 t.1.2.1)).setCell ⟨w.heap.size + 1, 8, none⟩ (.int .i64 t.1.2.2)) := below_set9 H3.out.2.2.below (by simp) (.int .i64 t.2.1.1) (.int .i64 t.2.1.2.1) (.int .i64 t.2.1.2.2) (.int .i64 t.2.2.1) (.int .i64 t.2.2.2.1) (.int .i64 t.2.2.2.2) (.int .i64 t.1.1) (.int .i64 t.1.2.1) (.int .i64 t.1.2.2)
    generalize (((((((((w3.setCell ⟨w.heap.size + 1, 0, none⟩ (.int .i64 t.2.1.1)).setCell ⟨w.heap.size + 1, 1, none⟩ (.int .i64 t.2.1.2.1)).setCell ⟨w.heap.size + 1, 2, none⟩ (.int .i64 t.2.1.2.2)).setCell ⟨w.heap.size + 1, 3, none⟩ (.int .i64 t.2.2.1)).setCell ⟨w.heap.size + 1, 4, none⟩ (.int .i64 t.2.2.2.1)).setCell ⟨w.heap.size + 1, 5, none⟩ (.int .i64 t.2.2.2.2)).setCell ⟨w.heap.size + 1, 6, none⟩ (.int .i64 t.1.1)).setCell ⟨w.heap.size + 1, 7, none⟩ (.int .i64 t.1.2.1)).setCell ⟨w.heap.size + 1, 8, none⟩ (.int .i64 t.1.2.2)) = V at hR hBV ⊢
    have s0 := hR.cell 0
    have s1 := hR.cell 1
    have s2 := hR.cell 2
    have s3 := hR.cell 3
    have s4 := hR.cell 4
    have s5 := hR.cell 5
    have s6 := hR.cell 6
    have s7 := hR.cell 7
    have s8 := hR.cell 8
    simp only [List.getElem?_toArray, List.getElem?_cons_zero, List.getElem?_cons_succ] at s0 s1 s2 s3 s4 s5 s6 s7 s8
    exact bodyPost_ret (v := vT (t.2.1, t.2.2, t.1)) (by simp [results, Tryz.results66, go_sem, s0, s1, s2, s3, s4, s5, s6, s7, s8]) rfl ⟨by simp [rotR, h1, h2, h3], hBV⟩
  · go_wp2_with fail
    have hR : Blk (((((((((w3.setCell ⟨w.heap.size + 1, 0, none⟩ (.int .i64 t.2.1.1)).setCell ⟨w.heap.size + 1, 1, none⟩ (.int .i64 t.2.1.2.1)).setCell ⟨w.heap.size + 1, 2, none⟩ (.int .i64 t.2.1.2.2)).setCell ⟨w.heap.size + 1, 3, none⟩ (.int .i64 t.2.2.1)).setCell ⟨w.heap.size + 1, 4, none⟩ (.int .i64 t.2.2.2.1)).setCell ⟨w.heap.size + 1, 5, none⟩ (.int .i64 t.2.2.2.2)).setCell ⟨w.heap.size + 1, 6, none⟩ (.int .i64 t.1.1)).setCell ⟨w.heap.size + 1, 7, none⟩ (.int .i64 t.1.2.1)).setCell ⟨w.heap.size + 1, 8, none⟩ (.int .i64 t.1.2.2)) (w.heap.size + 1) 58 #[.int .i64 t.2.1.1, .int .i64 t.2.1.2.1, .int .i64 t.2.1.2.2, .int .i64 t.2.2.1, .int .i64 t.2.2.2.1, .int .i64 t.2.2.2.2, .int .i64 t.1.1, .int .i64 t.1.2.1, .int .i64 t.1.2.2] := H3.out.2.1.set9 (.int .i64 t.2.1.1) (.int .i64 t.2.1.2.1) (.int .i64 t.2.1.2.2) (.int .i64 t.2.2.1) (.int .i64 t.2.2.2.1) (.int .i64 t.2.2.2.2) (.int .i64 t.1.1) (.int .i64 t.1.2.1) (.int .i64 t.1.2.2)
    have hBV : Below w.heap.size w (((((((((w3.setCell ⟨w.heap.size + 1, 0, none⟩ (.int .i64 t.2.1.1)).setCell ⟨w.heap.size + 1, 1, none⟩ (.int .i64 t.2.1.2.1)).setCell ⟨w.heap.size + 1, 2, none⟩ (.int .i64 t.2.1.2.2)).setCell ⟨w.heap.size + 1, 3, none⟩ (.int .i64 t.2.2.1)).setCell ⟨w.heap.size + 1, 4, none⟩ (.int .i64 t.2.2.2.1)).setCell ⟨w.heap.size + 1, 5, none⟩ (.int .i64 t.2.2.2.2)).setCell ⟨w.heap.size + 1, 6, none⟩ (.int .i64 t.1.1)).setCell ⟨w.heap.size + 1, 7, none⟩ (.int .i64 t.1.2.1)).setCell ⟨w.heap.size + 1, 8, none⟩ (.int .i64 t.1.2.2)) := below_set9 H3.out.2.2.below (by simp) (.int .i64 t.2.1.1) (.int .i64 t.2.1.2.1) (.int .i64 t.2.1.2.2) (.int .i64 t.2.2.1) (.int .i64 t.2.2.2.1) (.int .i64 t.2.2.2.2) (.int .i64 t.1.1) (.int .i64 t.1.2.1) (.int .i64 t.1.2.2)
    generalize (((((((((w3.setCell ⟨w.heap.size + 1, 0, none⟩ (.int .i64 t.2.1.1)).setCell ⟨w.heap.size + 1, 1, none⟩ (.int .i64 t.2.1.2.1)).setCell ⟨w.heap.size + 1, 2, none⟩ (.int .i64 t.2.1.2.2)).setCell ⟨w.heap.size + 1, 3, none⟩ (.int .i64 t.2.2.1)).setCell ⟨w.heap.size + 1, 4, none⟩ (.int .i64 t.2.2.2.1)).setCell ⟨w.heap.size + 1, 5, none⟩ (.int .i64 t.2.2.2.2)).setCell ⟨w.heap.size + 1, 6, none⟩ (.int .i64 t.1.1)).setCell ⟨w.heap.size + 1, 7, none⟩ (.int .i64 t.1.2.1)).setCell ⟨w.heap.size + 1, 8, none⟩ (.int .i64 t.1.2.2)) = V at hR hBV ⊢
    have s0 := hR.cell 0
    have s1 := hR.cell 1
    have s2 := hR.cell 2
    have s3 := hR.cell 3
    have s4 := hR.cell 4
    have s5 := hR.cell 5
    have s6 := hR.cell 6
    have s7 := hR.cell 7
    have s8 := hR.cell 8
    simp only [List.getElem?_toArray, List.getElem?_cons_zero, List.getElem?_cons_succ] at s0 s1 s2 s3 s4 s5 s6 s7 s8
    exact bodyPost_ret (v := vT (t.2.1, t.2.2, t.1)) (by simp [results, Tryz.results66, go_sem, s0, s1, s2, s3, s4, s5, s6, s7, s8]) rfl ⟨by simp [rotR, h1, h2, h3], hBV⟩
  · go_wp2_with fail
    have hR : Blk (((((((((w3.setCell ⟨w.heap.size + 1, 0, none⟩ (.int .i64 t.2.2.1)).setCell ⟨w.heap.size + 1, 1, none⟩ (.int .i64 t.2.2.2.1)).setCell ⟨w.heap.size + 1, 2, none⟩ (.int .i64 t.2.2.2.2)).setCell ⟨w.heap.size + 1, 3, none⟩ (.int .i64 t.1.1)).setCell ⟨w.heap.size + 1, 4, none⟩ (.int .i64 t.1.2.1)).setCell ⟨w.heap.size + 1, 5, none⟩ (.int .i64 t.1.2.2)).setCell ⟨w.heap.size + 1, 6, none⟩ (.int .i64 t.2.1.1)).setCell ⟨w.heap.size + 1, 7, none⟩ (.int .i64 t.2.1.2.1)).setCell ⟨w.heap.size + 1, 8, none⟩ (.int .i64 t.2.1.2.2)) (w.heap.size + 1) 58 #[.int .i64 t.2.2.1, .int .i64 t.2.2.2.1, .int .i64 t.2.2.2.2, .int .i64 t.1.1, .int .i64 t.1.2.1, .int .i64 t.1.2.2, .int .i64 t.2.1.1, .int .i64 t.2.1.2.1, .int .i64 t.2.1.2.2] := H3.out.2.1.set9 (.int .i64 t.2.2.1) (.int .i64 t.2.2.2.1) (.int .i64 t.2.2.2.2) (.int .i64 t.1.1) (.int .i64 t.1.2.1) (.int .i64 t.1.2.2) (.int .i64 t.2.1.1) (.int .i64 t.2.1.2.1) (.int .i64 t.2.1.2.2)
    have hBV : Below w.heap.size w (((((((((w3.setCell ⟨w.heap.size + 1, 0, none⟩ (.int .i64 t.2.2.1)).setCell ⟨w.heap.size + 1, 1, none⟩ (.int .i64 t.2.2.2.1)).setCell ⟨w.heap.size + 1, 2, none⟩ (.int .i64 t.2.2.2.2)).setCell ⟨w.heap.size + 1, 3, none⟩ (.int .i64 t.1.1)).setCell ⟨w.heap.size + 1, 4, none⟩ (.int .i64 t.1.2.1)).setCell ⟨w.heap.size + 1, 5, none⟩ (.int .i64 t.1.2.2)).setCell ⟨w.heap.size + 1, 6, none⟩ (.int .i64 t.2.1.1)).setCell ⟨w.heap.size + 1, 7, none⟩ (.int .i64 t.2.1.2.1)).setCell ⟨w.heap.size + 1, 8, none⟩ (.int .i64 t.2.1.2.2)) := below_set9 H3.out.2.2.below (by simp) (.int .i64 t.2.2.1) (.int .i64 t.2.2.2.1) (.int .i64 t.2.2.2.2) (.int .i64 t.1.1) (.int .i64 t.1.2.1) (.int .i64 t.1.2.2) (.int .i64 t.2.1.1) (.int .i64 t.2.1.2.1) (.int .i64 t.2.1.2.2)
    generalize (((((((((w3.setCell ⟨w.heap.size + 1, 0, none⟩ (.int .i64 t.2.2.1)).setCell ⟨w.heap.size + 1, 1, none⟩ (.int .i64 t.2.2.2.1)).setCell ⟨w.heap.size + 1, 2, none⟩ (.int .i64 t.2.2.2.2)).setCell ⟨w.heap.size + 1, 3, none⟩ (.int .i64 t.1.1)).setCell ⟨w.heap.size + 1, 4, none⟩ (.int .i64 t.1.2.1)).setCell ⟨w.heap.size + 1, 5, none⟩ (.int .i64 t.1.2.2)).setCell ⟨w.heap.size + 1, 6, none⟩ (.int .i64 t.2.1.1)).setCell ⟨w.heap.size + 1, 7, none⟩ (.int .i64 t.2.1.2.1)).setCell ⟨w.heap.size + 1, 8, none⟩ (.int .i64 t.2.1.2.2)) = V at hR hBV ⊢
    have s0 := hR.cell 0
    have s1 := hR.cell 1
    have s2 := hR.cell 2
    have s3 := hR.cell 3
    have s4 := hR.cell 4
    have s5 := hR.cell 5
    have s6 := hR.cell 6
    have s7 := hR.cell 7
    have s8 := hR.cell 8
    simp only [List.getElem?_toArray, List.getElem?_cons_zero, List.getElem?_cons_succ] at s0 s1 s2 s3 s4 s5 s6 s7 s8
    exact bodyPost_ret (v := vT (t.2.2, t.1, t.2.1)) (by simp [results, Tryz.results66, go_sem, s0, s1, s2, s3, s4, s5, s6, s7, s8]) rfl ⟨by simp [rotR, h1, h2, h3], hBV⟩
end Go.Proofs.YtelfnmohpjkilaaGreatDoor
namespace Go.Proofs.YtelfnmohpjkilaaGreatDoor
open Go.RowKit
theorem ltT_0 {s t : Tri} (h : s.1 ≠ t.1) : ltT s t = ltP s.1 t.1 := by simp [ltT, lexB, h]
theorem ltT_1 {s t : Tri} (h0 : s.1 = t.1) (h : s.2.1 ≠ t.2.1) : ltT s t = ltP s.2.1 t.2.1 := by simp [ltT, lexB, h0, h, sto_P.irrefl]
theorem ltT_2 {s t : Tri} (h0 : s.1 = t.1) (h1 : s.2.1 = t.2.1) : ltT s t = ltP s.2.2 t.2.2 := by simp [ltT, lexB, h0, h1, sto_P.irrefl]
set_option maxRecDepth 100000 in
set_option maxHeartbeats 4000000 in
theorem lessTri_any (s t : Tri) (hfs : fitsT s) (hft : fitsT t) (w : World) : Calls Tryz.prog 121 #[vT s, vT t] w fun e w' => e = .returned (.bool (ltT s t)) ∧ Below w.heap.size w w' := by
  go_enter Tryz.func121, Tryz.ntmps121
  go_wp2
  obtain ⟨W, hW⟩ : ∃ W, W = (w.alloc (.cells (encT s).toArray 58)).alloc (.cells (encT t).toArray 58) := ⟨_, rfl⟩
  have hbs : Blk W w.heap.size 58 (encT s).toArray := by rw [hW]; exact (Blk.new _ _ _).alloc _
  have hbt : Blk W (w.heap.size + 1) 58 (encT t).toArray := by rw [hW]; exact Blk.new' _ _ _ _ (by simp)
  have hB : Below w.heap.size w W := by rw [hW]; exact ((Below.refl _ _).alloc (Nat.le_refl _) _).alloc (by simp) _
  have H := hide (And.intro hbs (And.intro hbt (And.intro hB (And.intro hfs hft))))
  clear hW hbs hbt hB hfs hft
  go_loopw [5] (fun i wr => ∃ j : Nat, j ≤ 3 ∧ i = .int .i64 j ∧ Blk wr w.heap.size 58 (encT s).toArray ∧ Blk wr (w.heap.size + 1) 58 (encT t).toArray ∧ Below w.heap.size w wr ∧ (0 < j → s.1 = t.1) ∧ (1 < j → s.2.1 = t.2.1) ∧ (2 < j → s.2.2 = t.2.2)) (fun i _ => 3 - (intOf i).toNat)
  case atStart => exact ⟨0, by omega, rfl, (Blk.new _ _ _).alloc _, Blk.new' _ _ _ _ (by simp), ((Below.refl _ _).alloc (Nat.le_refl _) _).alloc (by simp) _, by omega, by omega, by omega⟩
  case round =>
    obtain ⟨j, hj, rfl, hbs, hbt, hB, e0, e1, e2⟩ := hrel
    have hc : j = 0 ∨ j = 1 ∨ j = 2 ∨ j = 3 := by omega
    rcases hc with rfl | rfl | rfl | rfl
    · have hq := eqP s.1 t.1 H.out.2.2.2.1.1 H.out.2.2.2.2.1
      have q0 : wr.cell? ⟨w.heap.size, 0, none⟩ = some (.int .i64 s.1.1) := hbs.cell 0
      have q1 : wr.cell? ⟨w.heap.size, 1, none⟩ = some (.int .i64 s.1.2.1) := hbs.cell 1
      have q2 : wr.cell? ⟨w.heap.size, 2, none⟩ = some (.int .i64 s.1.2.2) := hbs.cell 2
      have k0 : wr.cell? ⟨w.heap.size + 1, 0, none⟩ = some (.int .i64 t.1.1) := hbt.cell 0
      have k1 : wr.cell? ⟨w.heap.size + 1, 1, none⟩ = some (.int .i64 t.1.2.1) := hbt.cell 1
      have k2 : wr.cell? ⟨w.heap.size + 1, 2, none⟩ = some (.int .i64 t.1.2.2) := hbt.cell 2
      have HH := hide (And.intro hbs (And.intro hbt (And.intro hB (And.intro e0 (And.intro e1 e2)))))
      clear hbs hbt hB e0 e1 e2
      by_cases he : s.1 = t.1
      · have hd : decide (s.1 = t.1) = true := by simp [he]
        rw [hd] at hq
        have HE := hide he
        clear he hd
        go_wp2_with fail
        go_quiet (fail)
        go_wp2
        go_roundw
        case rel => exact ⟨1, by omega, rfl, HH.out.1, HH.out.2.1, below_drewN HH.out.2.2.1 _, fun _ => HE.out, by omega, by omega⟩
        case measure => simp [intOf]
      · have hd : decide (s.1 = t.1) = false := by simp [he]
        rw [hd] at hq
        have HE := hide he
        clear he hd
        go_wp2_with fail
        go_quiet (fail)
        go_wp2_with fail
        go_region_held3 (fun w' => w'.cell? ⟨w.heap.size, 0, none⟩ = some (.int .i64 s.1.1) ∧ w'.cell? ⟨w.heap.size, 1, none⟩ = some (.int .i64 s.1.2.1) ∧ w'.cell? ⟨w.heap.size, 2, none⟩ = some (.int .i64 s.1.2.2) ∧ w'.cell? ⟨w.heap.size + 1, 0, none⟩ = some (.int .i64 t.1.1) ∧ w'.cell? ⟨w.heap.size + 1, 1, none⟩ = some (.int .i64 t.1.2.1) ∧ w'.cell? ⟨w.heap.size + 1, 2, none⟩ = some (.int .i64 t.1.2.2)) (first | go_keep | exact ⟨(cell_lay hL q0), (cell_lay hL q1), (cell_lay hL q2), (cell_lay hL k0), (cell_lay hL k1), (cell_lay hL k2)⟩) ((go_at_call 83; refine (rless_any s.1 t.1 _).mono ?_; rintro e w1 ⟨rfl, hL⟩))
        go_wp2
        go_ret
        exact ⟨by rw [ltT_0 HE.out]; rfl, (below_drewN HH.out.2.2.1 _).trans (hL.below.mono (HH.out.2.2.1).size)⟩
    · have hq := eqP s.2.1 t.2.1 H.out.2.2.2.1.2.1 H.out.2.2.2.2.2.1
      have q0 : wr.cell? ⟨w.heap.size, 3, none⟩ = some (.int .i64 s.2.1.1) := hbs.cell 3
      have q1 : wr.cell? ⟨w.heap.size, 4, none⟩ = some (.int .i64 s.2.1.2.1) := hbs.cell 4
      have q2 : wr.cell? ⟨w.heap.size, 5, none⟩ = some (.int .i64 s.2.1.2.2) := hbs.cell 5
      have k0 : wr.cell? ⟨w.heap.size + 1, 3, none⟩ = some (.int .i64 t.2.1.1) := hbt.cell 3
      have k1 : wr.cell? ⟨w.heap.size + 1, 4, none⟩ = some (.int .i64 t.2.1.2.1) := hbt.cell 4
      have k2 : wr.cell? ⟨w.heap.size + 1, 5, none⟩ = some (.int .i64 t.2.1.2.2) := hbt.cell 5
      have HH := hide (And.intro hbs (And.intro hbt (And.intro hB (And.intro e0 (And.intro e1 e2)))))
      clear hbs hbt hB e0 e1 e2
      by_cases he : s.2.1 = t.2.1
      · have hd : decide (s.2.1 = t.2.1) = true := by simp [he]
        rw [hd] at hq
        have HE := hide he
        clear he hd
        go_wp2_with fail
        go_quiet (fail)
        go_wp2
        go_roundw
        case rel => exact ⟨2, by omega, rfl, HH.out.1, HH.out.2.1, below_drewN HH.out.2.2.1 _, fun _ => HH.out.2.2.2.1 (by omega), fun _ => HE.out, by omega⟩
        case measure => simp [intOf]
      · have hd : decide (s.2.1 = t.2.1) = false := by simp [he]
        rw [hd] at hq
        have HE := hide he
        clear he hd
        go_wp2_with fail
        go_quiet (fail)
        go_wp2_with fail
        go_region_held3 (fun w' => w'.cell? ⟨w.heap.size, 3, none⟩ = some (.int .i64 s.2.1.1) ∧ w'.cell? ⟨w.heap.size, 4, none⟩ = some (.int .i64 s.2.1.2.1) ∧ w'.cell? ⟨w.heap.size, 5, none⟩ = some (.int .i64 s.2.1.2.2) ∧ w'.cell? ⟨w.heap.size + 1, 3, none⟩ = some (.int .i64 t.2.1.1) ∧ w'.cell? ⟨w.heap.size + 1, 4, none⟩ = some (.int .i64 t.2.1.2.1) ∧ w'.cell? ⟨w.heap.size + 1, 5, none⟩ = some (.int .i64 t.2.1.2.2)) (first | go_keep | exact ⟨(cell_lay hL q0), (cell_lay hL q1), (cell_lay hL q2), (cell_lay hL k0), (cell_lay hL k1), (cell_lay hL k2)⟩) ((go_at_call 83; refine (rless_any s.2.1 t.2.1 _).mono ?_; rintro e w1 ⟨rfl, hL⟩))
        go_wp2
        go_ret
        exact ⟨by rw [ltT_1 (HH.out.2.2.2.1 (by omega)) HE.out]; rfl, (below_drewN HH.out.2.2.1 _).trans (hL.below.mono (HH.out.2.2.1).size)⟩
    · have hq := eqP s.2.2 t.2.2 H.out.2.2.2.1.2.2 H.out.2.2.2.2.2.2
      have q0 : wr.cell? ⟨w.heap.size, 6, none⟩ = some (.int .i64 s.2.2.1) := hbs.cell 6
      have q1 : wr.cell? ⟨w.heap.size, 7, none⟩ = some (.int .i64 s.2.2.2.1) := hbs.cell 7
      have q2 : wr.cell? ⟨w.heap.size, 8, none⟩ = some (.int .i64 s.2.2.2.2) := hbs.cell 8
      have k0 : wr.cell? ⟨w.heap.size + 1, 6, none⟩ = some (.int .i64 t.2.2.1) := hbt.cell 6
      have k1 : wr.cell? ⟨w.heap.size + 1, 7, none⟩ = some (.int .i64 t.2.2.2.1) := hbt.cell 7
      have k2 : wr.cell? ⟨w.heap.size + 1, 8, none⟩ = some (.int .i64 t.2.2.2.2) := hbt.cell 8
      have HH := hide (And.intro hbs (And.intro hbt (And.intro hB (And.intro e0 (And.intro e1 e2)))))
      clear hbs hbt hB e0 e1 e2
      by_cases he : s.2.2 = t.2.2
      · have hd : decide (s.2.2 = t.2.2) = true := by simp [he]
        rw [hd] at hq
        have HE := hide he
        clear he hd
        go_wp2_with fail
        go_quiet (fail)
        go_wp2
        go_roundw
        case rel => exact ⟨3, by omega, rfl, HH.out.1, HH.out.2.1, below_drewN HH.out.2.2.1 _, fun _ => HH.out.2.2.2.1 (by omega), fun _ => HH.out.2.2.2.2.1 (by omega), fun _ => HE.out⟩
        case measure => simp [intOf]
      · have hd : decide (s.2.2 = t.2.2) = false := by simp [he]
        rw [hd] at hq
        have HE := hide he
        clear he hd
        go_wp2_with fail
        go_quiet (fail)
        go_wp2_with fail
        go_region_held3 (fun w' => w'.cell? ⟨w.heap.size, 6, none⟩ = some (.int .i64 s.2.2.1) ∧ w'.cell? ⟨w.heap.size, 7, none⟩ = some (.int .i64 s.2.2.2.1) ∧ w'.cell? ⟨w.heap.size, 8, none⟩ = some (.int .i64 s.2.2.2.2) ∧ w'.cell? ⟨w.heap.size + 1, 6, none⟩ = some (.int .i64 t.2.2.1) ∧ w'.cell? ⟨w.heap.size + 1, 7, none⟩ = some (.int .i64 t.2.2.2.1) ∧ w'.cell? ⟨w.heap.size + 1, 8, none⟩ = some (.int .i64 t.2.2.2.2)) (first | go_keep | exact ⟨(cell_lay hL q0), (cell_lay hL q1), (cell_lay hL q2), (cell_lay hL k0), (cell_lay hL k1), (cell_lay hL k2)⟩) ((go_at_call 83; refine (rless_any s.2.2 t.2.2 _).mono ?_; rintro e w1 ⟨rfl, hL⟩))
        go_wp2
        go_ret
        exact ⟨by rw [ltT_2 (HH.out.2.2.2.1 (by omega)) (HH.out.2.2.2.2.1 (by omega))]; rfl, (below_drewN HH.out.2.2.1 _).trans (hL.below.mono (HH.out.2.2.1).size)⟩
    · have h0 := e0 (by omega)
      have h1 := e1 (by omega)
      have h2 := e2 (by omega)
      have HH := hide (And.intro hB (And.intro h0 (And.intro h1 h2)))
      clear hbs hbt hB e0 e1 e2 h0 h1 h2
      have d3 : ((3 : Int) < 3) = False := by simp
      go_wp2
      go_ret
      refine ⟨?_, HH.out.1⟩
      rw [ltT_2 HH.out.2.1 HH.out.2.2.1, HH.out.2.2.2, sto_P.irrefl]
      rfl
end Go.Proofs.YtelfnmohpjkilaaGreatDoor
namespace Go.Proofs.YtelfnmohpjkilaaGreatDoor
open Go.RowKit Go.Sort
abbrev mergeT (xs ys : List Tri) : List Tri := List.merge xs ys (leO ltT)
set_option maxRecDepth 100000 in
set_option maxHeartbeats 8000000 in
theorem merge_any (A B : Option Addr) (c d : Nat) (xs ys : List Tri) (w : World) (hx : Sl encT 9 w w.heap.size A xs) (hy : Sl encT 9 w w.heap.size B ys) (hlx : xs.length ≤ 4294967296) (hly : ys.length ≤ 4294967296) (hd : ys.length ≤ d)
    (hfx : ∀ t ∈ xs, fitsT t) (hfy : ∀ t ∈ ys, fitsT t) :
    Calls Tryz.prog 100 #[.slice A xs.length c, .slice B ys.length d] w fun e w' => ∃ v, e = .returned v ∧ Own encT 9 58 w' w.heap.size v (xs.length + ys.length) (mergeT xs ys) ∧ Below w.heap.size w w' := by
  have H := hide (And.intro hx (And.intro hy (And.intro hfx hfy)))
  clear hx hy hfx hfy
  go_enter Tryz.func100, Tryz.ntmps100
  go_wp2
  go_loopw [5, 6, 7] (fun o j i wr => ∃ (k m : Nat) (done : List Tri), k ≤ xs.length ∧ m ≤ ys.length ∧ i = .int .i64 k ∧ j = .int .i64 m ∧ Own encT 9 58 wr w.heap.size o (k + m) done ∧ done ++ mergeT (xs.drop k) (ys.drop m) = mergeT xs ys ∧ Below w.heap.size w wr) (fun _ _ i _ => xs.length - (intOf i).toNat)
  case atStart => exact ⟨0, 0, [], Nat.zero_le _, Nat.zero_le _, rfl, rfl, Own.nil, rfl, Below.refl _ w⟩
  case round =>
    obtain ⟨k, m0, done0, hk, hm0, rfl, rfl, hown0, heq0, hB0⟩ := hrel
    by_cases hlt : k < xs.length
    · obtain ⟨x, hxk⟩ : ∃ x, xs[k]? = some x := ⟨_, List.getElem?_eq_getElem hlt⟩
      have hfx : fitsT x := H.out.2.2.1 x (List.mem_of_getElem? hxk)
      obtain ⟨bA, oA, hA, hbA, hcx⟩ := H.out.1.tri hxk
      subst hA
      have HX := hide (And.intro hxk (And.intro hfx hcx))
      have H0 := hide (And.intro hown0 (And.intro heq0 hB0))
      have i1 : (k : Int) < (xs.length : Int) := by omega
      clear hxk hfx hcx hown0 heq0 hB0
      go_wp2
      go_loopw [5, 6] (fun o j wr => ∃ (m : Nat) (done : List Tri), m ≤ ys.length ∧ j = .int .i64 m ∧ Own encT 9 58 wr w.heap.size o (k + m) done ∧ done ++ mergeT (xs.drop k) (ys.drop m) = mergeT xs ys ∧ Below w.heap.size w wr) (fun _ j _ => ys.length - (intOf j).toNat)
      case atStart => exact ⟨m0, done0, hm0, rfl, H0.out.1, H0.out.2.1, H0.out.2.2⟩
      case round =>
        obtain ⟨m, done, hm, rfl, hown, heq, hB⟩ := hrel
        obtain ⟨Aq, cq, rfl⟩ := hown.form
        have hszB := hB.size
        have hbAr : bA < wr.heap.size := by omega
        have g0 := (hB.cell (p := ⟨bA, _, none⟩) hbA).trans HX.out.2.2.1
        have g1 := (hB.cell (p := ⟨bA, _, none⟩) hbA).trans HX.out.2.2.2.1
        have g2 := (hB.cell (p := ⟨bA, _, none⟩) hbA).trans HX.out.2.2.2.2.1
        have g3 := (hB.cell (p := ⟨bA, _, none⟩) hbA).trans HX.out.2.2.2.2.2.1
        have g4 := (hB.cell (p := ⟨bA, _, none⟩) hbA).trans HX.out.2.2.2.2.2.2.1
        have g5 := (hB.cell (p := ⟨bA, _, none⟩) hbA).trans HX.out.2.2.2.2.2.2.2.1
        have g6 := (hB.cell (p := ⟨bA, _, none⟩) hbA).trans HX.out.2.2.2.2.2.2.2.2.1
        have g7 := (hB.cell (p := ⟨bA, _, none⟩) hbA).trans HX.out.2.2.2.2.2.2.2.2.2.1
        have g8 := (hB.cell (p := ⟨bA, _, none⟩) hbA).trans HX.out.2.2.2.2.2.2.2.2.2.2
        have H1 := hide (And.intro hown (And.intro heq hB))
        clear hown heq hB
        by_cases hlm : m < ys.length
        · obtain ⟨y, hym⟩ : ∃ y, ys[m]? = some y := ⟨_, List.getElem?_eq_getElem hlm⟩
          have hfy : fitsT y := H.out.2.2.2 y (List.mem_of_getElem? hym)
          obtain ⟨bB, oB, hBB, hbB, hcy⟩ := H.out.2.1.tri hym
          subst hBB
          have hbBr : bB < wr.heap.size := by omega
          have i2 : (m : Int) < (ys.length : Int) := by omega
          have k0 := (H1.out.2.2.cell (p := ⟨bB, _, none⟩) hbB).trans hcy.1
          have k1 := (H1.out.2.2.cell (p := ⟨bB, _, none⟩) hbB).trans hcy.2.1
          have k2 := (H1.out.2.2.cell (p := ⟨bB, _, none⟩) hbB).trans hcy.2.2.1
          have k3 := (H1.out.2.2.cell (p := ⟨bB, _, none⟩) hbB).trans hcy.2.2.2.1
          have k4 := (H1.out.2.2.cell (p := ⟨bB, _, none⟩) hbB).trans hcy.2.2.2.2.1
          have k5 := (H1.out.2.2.cell (p := ⟨bB, _, none⟩) hbB).trans hcy.2.2.2.2.2.1
          have k6 := (H1.out.2.2.cell (p := ⟨bB, _, none⟩) hbB).trans hcy.2.2.2.2.2.2.1
          have k7 := (H1.out.2.2.cell (p := ⟨bB, _, none⟩) hbB).trans hcy.2.2.2.2.2.2.2.1
          have k8 := (H1.out.2.2.cell (p := ⟨bB, _, none⟩) hbB).trans hcy.2.2.2.2.2.2.2.2
          have HY := hide (And.intro hym hfy)
          clear hcy hym hfy
          by_cases hless : ltT y x = true
          · have HL := hide hless
            go_wp2_with fail
            go_region_held3 (fun w' => w'.cell? ⟨bA, oA + k * 9, none⟩ = some (.int .i64 x.1.1) ∧ w'.cell? ⟨bA, oA + k * 9 + 1, none⟩ = some (.int .i64 x.1.2.1) ∧ w'.cell? ⟨bA, oA + k * 9 + 2, none⟩ = some (.int .i64 x.1.2.2) ∧ w'.cell? ⟨bA, oA + k * 9 + 3, none⟩ = some (.int .i64 x.2.1.1) ∧ w'.cell? ⟨bA, oA + k * 9 + 4, none⟩ = some (.int .i64 x.2.1.2.1) ∧ w'.cell? ⟨bA, oA + k * 9 + 5, none⟩ = some (.int .i64 x.2.1.2.2) ∧ w'.cell? ⟨bA, oA + k * 9 + 6, none⟩ = some (.int .i64 x.2.2.1) ∧ w'.cell? ⟨bA, oA + k * 9 + 7, none⟩ = some (.int .i64 x.2.2.2.1) ∧ w'.cell? ⟨bA, oA + k * 9 + 8, none⟩ = some (.int .i64 x.2.2.2.2) ∧ w'.cell? ⟨bB, oB + m * 9, none⟩ = some (.int .i64 y.1.1) ∧ w'.cell? ⟨bB, oB + m * 9 + 1, none⟩ = some (.int .i64 y.1.2.1) ∧ w'.cell? ⟨bB, oB + m * 9 + 2, none⟩ = some (.int .i64 y.1.2.2) ∧ w'.cell? ⟨bB, oB + m * 9 + 3, none⟩ = some (.int .i64 y.2.1.1) ∧ w'.cell? ⟨bB, oB + m * 9 + 4, none⟩ = some (.int .i64 y.2.1.2.1) ∧ w'.cell? ⟨bB, oB + m * 9 + 5, none⟩ = some (.int .i64 y.2.1.2.2) ∧ w'.cell? ⟨bB, oB + m * 9 + 6, none⟩ = some (.int .i64 y.2.2.1) ∧ w'.cell? ⟨bB, oB + m * 9 + 7, none⟩ = some (.int .i64 y.2.2.2.1) ∧ w'.cell? ⟨bB, oB + m * 9 + 8, none⟩ = some (.int .i64 y.2.2.2.2)) (first | go_keep | exact ⟨(hL.cell (p := ⟨bA, _, none⟩) hbAr).trans g0, (hL.cell (p := ⟨bA, _, none⟩) hbAr).trans g1, (hL.cell (p := ⟨bA, _, none⟩) hbAr).trans g2, (hL.cell (p := ⟨bA, _, none⟩) hbAr).trans g3, (hL.cell (p := ⟨bA, _, none⟩) hbAr).trans g4, (hL.cell (p := ⟨bA, _, none⟩) hbAr).trans g5, (hL.cell (p := ⟨bA, _, none⟩) hbAr).trans g6, (hL.cell (p := ⟨bA, _, none⟩) hbAr).trans g7, (hL.cell (p := ⟨bA, _, none⟩) hbAr).trans g8, (hL.cell (p := ⟨bB, _, none⟩) hbBr).trans k0, (hL.cell (p := ⟨bB, _, none⟩) hbBr).trans k1, (hL.cell (p := ⟨bB, _, none⟩) hbBr).trans k2, (hL.cell (p := ⟨bB, _, none⟩) hbBr).trans k3, (hL.cell (p := ⟨bB, _, none⟩) hbBr).trans k4, (hL.cell (p := ⟨bB, _, none⟩) hbBr).trans k5, (hL.cell (p := ⟨bB, _, none⟩) hbBr).trans k6, (hL.cell (p := ⟨bB, _, none⟩) hbBr).trans k7, (hL.cell (p := ⟨bB, _, none⟩) hbBr).trans k8⟩) ((go_at_call 121; refine (lessTri_any y x HY.out.2 HX.out.2.1 _).mono ?_; rintro e w1 ⟨rfl, hL⟩; rw [hless]))
            have hL := (below_drew wr).trans hL
            have hLs := hL.size
            have hbB1 : bB < w1.heap.size := by have : wr.heap.size ≤ w1.heap.size := hLs; omega
            have q0 := (hL.cell (p := ⟨bB, _, none⟩) hbBr).trans k0
            have q1 := (hL.cell (p := ⟨bB, _, none⟩) hbBr).trans k1
            have q2 := (hL.cell (p := ⟨bB, _, none⟩) hbBr).trans k2
            have q3 := (hL.cell (p := ⟨bB, _, none⟩) hbBr).trans k3
            have q4 := (hL.cell (p := ⟨bB, _, none⟩) hbBr).trans k4
            have q5 := (hL.cell (p := ⟨bB, _, none⟩) hbBr).trans k5
            have q6 := (hL.cell (p := ⟨bB, _, none⟩) hbBr).trans k6
            have q7 := (hL.cell (p := ⟨bB, _, none⟩) hbBr).trans k7
            have q8 := (hL.cell (p := ⟨bB, _, none⟩) hbBr).trans k8
            have hB1 : Below w.heap.size w w1 := (H1.out.2.2.trans (hL.mono hszB))
            have hs1 := hB1.size
            have hown1 := (H1.out.1.below (w' := w1) hL (Nat.le_refl _)).alloc (.cells (encT y).toArray 58)
            have H2 := hide hB1
            clear hB1 hL hLs g0 g1 g2 g3 g4 g5 g6 g7 g8 k0 k1 k2 k3 k4 k5 k6 k7 k8
            go_wp2_with (at_builtin; refine wpList_append1 rfl _ _ _ rfl Tryz.underlying28 infoT rfl (by omega) encT_len encT_one rfl hown1 w1.heap.size 1 y rfl (Blk.new _ _ _) (by unfold maxLen; omega) (by omega) (by simp; omega) ?_; intro g cap w5 hown5 hg5 hB5 hat5 hgb5 hlt5)
            go_roundw
            case rel => exact ⟨m + 1, done ++ [y], by omega, by go_num, hown5, by rw [List.append_assoc, List.singleton_append, ← merge_right HX.out.1 HY.out.1 HL.out]; exact H1.out.2.1, (H2.out.alloc hs1 _).trans hB5⟩
            case measure => simp [intOf]; omega
          · have hlf : ltT y x = false := by simpa using hless
            have HL := hide hlf
            clear hless
            go_wp2_with fail
            go_region_held3 (fun w' => w'.cell? ⟨bA, oA + k * 9, none⟩ = some (.int .i64 x.1.1) ∧ w'.cell? ⟨bA, oA + k * 9 + 1, none⟩ = some (.int .i64 x.1.2.1) ∧ w'.cell? ⟨bA, oA + k * 9 + 2, none⟩ = some (.int .i64 x.1.2.2) ∧ w'.cell? ⟨bA, oA + k * 9 + 3, none⟩ = some (.int .i64 x.2.1.1) ∧ w'.cell? ⟨bA, oA + k * 9 + 4, none⟩ = some (.int .i64 x.2.1.2.1) ∧ w'.cell? ⟨bA, oA + k * 9 + 5, none⟩ = some (.int .i64 x.2.1.2.2) ∧ w'.cell? ⟨bA, oA + k * 9 + 6, none⟩ = some (.int .i64 x.2.2.1) ∧ w'.cell? ⟨bA, oA + k * 9 + 7, none⟩ = some (.int .i64 x.2.2.2.1) ∧ w'.cell? ⟨bA, oA + k * 9 + 8, none⟩ = some (.int .i64 x.2.2.2.2) ∧ w'.cell? ⟨bB, oB + m * 9, none⟩ = some (.int .i64 y.1.1) ∧ w'.cell? ⟨bB, oB + m * 9 + 1, none⟩ = some (.int .i64 y.1.2.1) ∧ w'.cell? ⟨bB, oB + m * 9 + 2, none⟩ = some (.int .i64 y.1.2.2) ∧ w'.cell? ⟨bB, oB + m * 9 + 3, none⟩ = some (.int .i64 y.2.1.1) ∧ w'.cell? ⟨bB, oB + m * 9 + 4, none⟩ = some (.int .i64 y.2.1.2.1) ∧ w'.cell? ⟨bB, oB + m * 9 + 5, none⟩ = some (.int .i64 y.2.1.2.2) ∧ w'.cell? ⟨bB, oB + m * 9 + 6, none⟩ = some (.int .i64 y.2.2.1) ∧ w'.cell? ⟨bB, oB + m * 9 + 7, none⟩ = some (.int .i64 y.2.2.2.1) ∧ w'.cell? ⟨bB, oB + m * 9 + 8, none⟩ = some (.int .i64 y.2.2.2.2)) (first | go_keep | exact ⟨(hL.cell (p := ⟨bA, _, none⟩) hbAr).trans g0, (hL.cell (p := ⟨bA, _, none⟩) hbAr).trans g1, (hL.cell (p := ⟨bA, _, none⟩) hbAr).trans g2, (hL.cell (p := ⟨bA, _, none⟩) hbAr).trans g3, (hL.cell (p := ⟨bA, _, none⟩) hbAr).trans g4, (hL.cell (p := ⟨bA, _, none⟩) hbAr).trans g5, (hL.cell (p := ⟨bA, _, none⟩) hbAr).trans g6, (hL.cell (p := ⟨bA, _, none⟩) hbAr).trans g7, (hL.cell (p := ⟨bA, _, none⟩) hbAr).trans g8, (hL.cell (p := ⟨bB, _, none⟩) hbBr).trans k0, (hL.cell (p := ⟨bB, _, none⟩) hbBr).trans k1, (hL.cell (p := ⟨bB, _, none⟩) hbBr).trans k2, (hL.cell (p := ⟨bB, _, none⟩) hbBr).trans k3, (hL.cell (p := ⟨bB, _, none⟩) hbBr).trans k4, (hL.cell (p := ⟨bB, _, none⟩) hbBr).trans k5, (hL.cell (p := ⟨bB, _, none⟩) hbBr).trans k6, (hL.cell (p := ⟨bB, _, none⟩) hbBr).trans k7, (hL.cell (p := ⟨bB, _, none⟩) hbBr).trans k8⟩) ((go_at_call 121; refine (lessTri_any y x HY.out.2 HX.out.2.1 _).mono ?_; rintro e w1 ⟨rfl, hL⟩; rw [hlf]))
            have hL := (below_drew wr).trans hL
            have q0 := (hL.cell (p := ⟨bA, _, none⟩) hbAr).trans g0
            have q1 := (hL.cell (p := ⟨bA, _, none⟩) hbAr).trans g1
            have q2 := (hL.cell (p := ⟨bA, _, none⟩) hbAr).trans g2
            have q3 := (hL.cell (p := ⟨bA, _, none⟩) hbAr).trans g3
            have q4 := (hL.cell (p := ⟨bA, _, none⟩) hbAr).trans g4
            have q5 := (hL.cell (p := ⟨bA, _, none⟩) hbAr).trans g5
            have q6 := (hL.cell (p := ⟨bA, _, none⟩) hbAr).trans g6
            have q7 := (hL.cell (p := ⟨bA, _, none⟩) hbAr).trans g7
            have q8 := (hL.cell (p := ⟨bA, _, none⟩) hbAr).trans g8
            have HLs := hide hL
            clear hlf hL g0 g1 g2 g3 g4 g5 g6 g7 g8 k0 k1 k2 k3 k4 k5 k6 k7 k8
            have hgk : Own encT 9 58 w1 w.heap.size (.slice Aq ((k + m : Nat)) cq) (k + m) done := H1.out.1.below (w' := w1) HLs.out (Nat.le_refl _)
            have hBk : Below w.heap.size w w1 := H1.out.2.2.trans (HLs.out.mono hszB)
            have hszk := hBk.size
            have HK := hide (And.intro hgk hBk)
            have hgk2 := HK.out.1.alloc (.cells (encT x).toArray 58)
            clear hgk hBk
            go_wp2_with (at_builtin; refine wpList_append1 rfl _ _ _ rfl Tryz.underlying28 infoT rfl (by omega) encT_len encT_one rfl hgk2 w1.heap.size 1 x rfl (Blk.new _ _ _) (by unfold maxLen; omega) (by omega) (by simp; omega) ?_; intro g cap w5 hown5 hg5 hB5 hat5 hgb5 hlt5)
            go_roundw
            case rel => exact ⟨k + 1, m, done ++ [x], by omega, by omega, by go_num, rfl, by rw [show k + 1 + m = k + m + 1 by omega]; exact hown5, by rw [List.append_assoc, List.singleton_append, ← merge_left HX.out.1 (fun y' hy' => by rw [HY.out.1] at hy'; cases hy'; exact HL.out)]; exact H1.out.2.1, (HK.out.2.alloc hszk _).trans hB5⟩
            case measure => simp [intOf]; omega
        · have hme : m = ys.length := by omega
          have HM := hide hme
          clear hme
          have hgk : Own encT 9 58 wr w.heap.size (.slice Aq ((k + m : Nat)) cq) (k + m) done := H1.out.1
          have hBk : Below w.heap.size w wr := H1.out.2.2
          have hszk := hBk.size
          have HK := hide (And.intro hgk hBk)
          have hgk2 := HK.out.1.alloc (.cells (encT x).toArray 58)
          clear hgk hBk
          go_wp2_with (at_builtin; refine wpList_append1 rfl _ _ _ rfl Tryz.underlying28 infoT rfl (by omega) encT_len encT_one rfl hgk2 wr.heap.size 1 x rfl (Blk.new _ _ _) (by unfold maxLen; omega) (by omega) (by simp; omega) ?_; intro g cap w5 hown5 hg5 hB5 hat5 hgb5 hlt5)
          go_roundw
          case rel => exact ⟨k + 1, m, done ++ [x], by omega, by omega, by go_num, rfl, by rw [show k + 1 + m = k + m + 1 by omega]; exact hown5, by rw [List.append_assoc, List.singleton_append, ← merge_left HX.out.1 (fun y' hy' => by rw [HM.out, List.getElem?_eq_none (Nat.le_refl _)] at hy'; cases hy')]; exact H1.out.2.1, (HK.out.2.alloc hszk _).trans hB5⟩
          case measure => simp [intOf]; omega
    · have hke : k = xs.length := by omega
      subst hke
      have hsz := hB0.size
      rw [mergeT, merge_end (Nat.le_refl _)] at heq0
      obtain ⟨Aq, cq, rfl⟩ := hown0.form
      have hcut : Sl encT 9 wr wr.heap.size (cutA B d m0 9) (ys.drop m0) := ((H.out.2.1.below hB0).cut (Nat.le_of_lt_succ (by omega)) hd).more hsz
      have hrun : ∀ V : World, (Instr.slice 28 (.slice B ys.length d) (some (.int .i64 m0)) none none).run Tryz.prog V = .ok (.slice (cutA B d m0 9) (ys.length - m0) (d - m0)) V := fun V => by
        exact run_cut Tryz.underlying28 Tryz.sizeOf58 hm0 V
      have HC := hide (And.intro hcut (And.intro hown0 (And.intro heq0 (And.intro hB0 hm0))))
      clear hcut hown0 heq0 hB0 hm0
      go_wp2_with (at_builtin; refine wpList_appendS rfl _ _ _ rfl Tryz.underlying28 infoT rfl (by omega) encT_len encT_one rfl HC.out.2.1 (cutA B d m0 9) (d - m0) wr.heap.size (ys.drop m0) (by rw [List.length_drop]; rfl) HC.out.1 (by have := HC.out.2.2.2.2; rw [List.length_drop]; unfold maxLen; omega) (by have := HC.out.2.2.2.2; rw [List.length_drop]; omega) hsz ?_; intro v' w5 hown5 hg5 hB5 hat5)
      go_ret
      refine ⟨_, rfl, ?_, HC.out.2.2.2.1.trans hB5⟩
      rw [HC.out.2.2.1] at hown5
      have hm0 := HC.out.2.2.2.2
      rw [List.length_drop, show xs.length + m0 + (ys.length - m0) = xs.length + ys.length by omega] at hown5
      exact hown5
end Go.Proofs.YtelfnmohpjkilaaGreatDoor
namespace Go.Proofs.YtelfnmohpjkilaaGreatDoor
open Go.RowKit Go.Sort
set_option maxRecDepth 100000 in
set_option maxHeartbeats 4000000 in
theorem sort04_any (n : Nat) : ∀ (A : Option Addr) (c : Nat) (ts : List Tri) (w : World), ts.length ≤ n → Sl encT 9 w w.heap.size A ts → ts.length ≤ 2147483648 → ts.length ≤ c → (∀ t ∈ ts, fitsT t) →
    Calls Tryz.prog 67 #[.slice A ts.length c] w fun e w' => ∃ A' c', e = .returned (.slice A' ts.length c') ∧ Below w.heap.size w w' ∧ Sl encT 9 w' w'.heap.size A' (sortO ltT ts) ∧ ts.length ≤ c' := by
  induction n with
  | zero =>
    intro A c ts w hn hs hl hc hf
    have e : ts = [] := List.eq_nil_of_length_eq_zero (by omega)
    subst e
    have H := hide (And.intro hs hc)
    clear hs hc hf hn hl
    go_enter Tryz.func67, Tryz.ntmps67
    go_wp2_with fail
    go_ret
    exact ⟨A, c, rfl, Below.refl _ w, by rw [sortO_short (by simp)]; exact H.out.1, H.out.2⟩
  | succ n ih =>
    intro A c ts w hn hs hl hc hf
    by_cases h2 : ts.length < 2
    · have H := hide (And.intro hs (And.intro hc h2))
      have hd : decide ((ts.length : Int) < 2) = true := by simp; omega
      clear hs hc hf hn
      go_enter Tryz.func67, Tryz.ntmps67
      go_wp2_with fail
      go_ret
      exact ⟨A, c, rfl, Below.refl _ w, by rw [sortO_short H.out.2.2]; exact H.out.1, H.out.2.1⟩
    · obtain ⟨h, hh⟩ : ∃ h, h = ts.length / 2 := ⟨_, rfl⟩
      obtain ⟨t1, ht1⟩ : ∃ t1, t1 = ts.take h := ⟨_, rfl⟩
      obtain ⟨t2, ht2⟩ : ∃ t2, t2 = ts.drop h := ⟨_, rfl⟩
      have hl1 : t1.length = h := by rw [ht1, List.length_take]; omega
      have hl2 : t2.length = ts.length - h := by rw [ht2, List.length_drop]
      have hq : (ts.length : Int) / 2 = (h : Int) := by omega
      have hrun1 : ∀ V : World, (Instr.slice 28 (.slice A ts.length c) none (some (.int .i64 h)) none).run Tryz.prog V = .ok (.slice A t1.length c) V := fun V => by
        rw [hl1]; exact run_cutH Tryz.underlying28 Tryz.sizeOf58 (by omega) hc V
      have hrun2 : ∀ V : World, (Instr.slice 28 (.slice A ts.length c) (some (.int .i64 h)) none none).run Tryz.prog V = .ok (.slice (cutA A c h 9) t2.length (c - h)) V := fun V => by
        rw [hl2]; exact run_cut Tryz.underlying28 Tryz.sizeOf58 (by omega) V
      have hs1 : Sl encT 9 w w.heap.size A t1 := by rw [ht1]; exact hs.take h
      have hs2 : Sl encT 9 w w.heap.size (cutA A c h 9) t2 := by rw [ht2]; exact hs.cut (by omega) hc
      have hf1 : ∀ t ∈ t1, fitsT t := fun t ht => hf t (by rw [ht1] at ht; exact List.mem_of_mem_take ht)
      have hf2 : ∀ t ∈ t2, fitsT t := fun t ht => hf t (by rw [ht2] at ht; exact List.mem_of_mem_drop ht)
      have hsum : t1.length + t2.length = ts.length := by omega
      have hm : mergeT (sortO ltT t1) (sortO ltT t2) = sortO ltT ts := by rw [ht1, ht2]; exact tot_T.halves ts h
      have hb1 : t1.length ≤ n ∧ t1.length ≤ 2147483648 ∧ t1.length ≤ c := by omega
      have hb2 : t2.length ≤ n ∧ t2.length ≤ 2147483648 ∧ t2.length ≤ c - h := by omega
      have hd : decide ((ts.length : Int) < 2) = false := by simp; omega
      have hw : wrap64 (h : Int) = h := by unfold wrap64; omega
      have HI := hide ih
      have HS := hide (And.intro hs1 (And.intro hs2 (And.intro hf1 (And.intro hf2 (And.intro hsum (And.intro hm (And.intro hb1 hb2)))))))
      clear hs hs1 hs2 hf hf1 hf2 hsum hm hb1 hb2 ih hn hl hc hh ht1 ht2 hl1 hl2
      go_enter Tryz.func67, Tryz.ntmps67
      go_wp2_with fail
      go_region_held3 (fun _ => True) (trivial) (first
        | (go_at_call 100; rw [← sortO_length (lt := ltT) t1, ← sortO_length (lt := ltT) t2]; refine (merge_any A1 A2 c1 c2 (sortO ltT t1) (sortO ltT t2) _ ((hs1.below hB2).more hB2.size) hs2 (by rw [sortO_length]; have := HS.out.2.2.2.2.2.2.1.2.1; omega) (by rw [sortO_length]; have := HS.out.2.2.2.2.2.2.2.2.1; omega) (by rw [sortO_length]; exact hc2) (fun t ht => HS.out.2.2.1 t (sortO_mem.1 ht)) (fun t ht => HS.out.2.2.2.1 t (sortO_mem.1 ht))).mono ?_; rintro e w3 ⟨v, rfl, hown, hB3⟩)
        | (go_at_call 67; have hB1' := hB1; refine (HI.out (cutA A c h 9) (c - h) t2 _ HS.out.2.2.2.2.2.2.2.1 ((HS.out.2.1.below hB1).more hB1.size) HS.out.2.2.2.2.2.2.2.2.1 HS.out.2.2.2.2.2.2.2.2.2 HS.out.2.2.2.1).mono ?_; rintro e w2 ⟨A2, c2, rfl, hB2, hs2, hc2⟩)
        | (go_at_call 67; refine (HI.out A c t1 w.drew HS.out.2.2.2.2.2.2.1.1 HS.out.1 HS.out.2.2.2.2.2.2.1.2.1 HS.out.2.2.2.2.2.2.1.2.2 HS.out.2.2.1).mono ?_; rintro e w1 ⟨A1, c1, rfl, hB0, hs1, hc1⟩; have hB1 := (below_drew w).trans hB0; clear hB0))
      go_wp2
      go_ret
      obtain ⟨A3, c3, rfl⟩ := hown.form
      have hmm := HS.out.2.2.2.2.2.1
      have hsum := HS.out.2.2.2.2.1
      rw [hmm] at hown
      rw [sortO_length, sortO_length, hsum] at hown ⊢
      exact ⟨A3, c3, rfl, (hB1.trans (hB2.mono hB1.size)).trans (hB3.mono (by have := hB1.size; have := hB2.size; omega)), hown.sl encT_len (Nat.le_refl _), hown.place.1⟩
end Go.Proofs.YtelfnmohpjkilaaGreatDoor
namespace Go.Proofs.YtelfnmohpjkilaaGreatDoor
open Go.RowKit Go.Sort
theorem rotR_eq (t : Tri) : rotR t = rotT t := by
  unfold rotR rotT
  cases h1 : ltP t.2.1 t.1 <;> cases h2 : ltP t.2.2 t.1 <;> cases h3 : ltP t.2.2 t.2.1 <;> simp
  have := sto_P.trans _ _ _ h3 h1
  rw [h2] at this; cases this
theorem map_take_snoc' {α β : Type} (f : α → β) (xs : List α) (k : Nat) (x : α) (h : xs[k]? = some x) : (xs.take (k + 1)).map f = (xs.take k).map f ++ [f x] := by
  rw [List.take_add_one, h]
  simp
set_option maxHeartbeats 2000000 in
set_option maxRecDepth 100000 in
theorem canon04_any (A : Option Addr) (c : Nat) (ts : List Tri) (w : World) (hs : Sl encT 9 w w.heap.size A ts) (hl : ts.length ≤ 2147483648) (hf : ∀ t ∈ ts, fitsT t) :
    Calls Tryz.prog 31 #[.slice A ts.length c] w fun e w' => ∃ A' c', e = .returned (.slice A' ts.length c') ∧ Below w.heap.size w w' ∧ Sl encT 9 w' w'.heap.size A' (canonO ts) ∧ ts.length ≤ c' := by
  have HF := hide hf
  clear hf
  go_enter Tryz.func31, Tryz.ntmps31
  go_wp2
  go_loopw [3, 4] (fun v i wr => ∃ k : Nat, k ≤ ts.length ∧ i = .int .i64 k ∧ Own encT 9 58 wr w.heap.size v k ((ts.take k).map rotT) ∧ Below w.heap.size w wr) (fun _ i _ => ts.length - (intOf i).toNat)
  case atStart => exact ⟨0, by omega, rfl, Own.nil, Below.refl _ _⟩
  case round =>
    obtain ⟨k, hk, rfl, hown, hB⟩ := hrel
    obtain ⟨A1, c1, rfl⟩ := hown.form
    have hsz := hB.size
    by_cases hlt : k < ts.length
    · obtain ⟨u, hu⟩ : ∃ u, ts[k]? = some u := ⟨_, List.getElem?_eq_getElem hlt⟩
      obtain ⟨b, o, hA, hb, g0, g1, g2, g3, g4, g5, g6, g7, g8⟩ := (hs.below hB).tri hu
      subst hA
      have HU := hide hu
      have HS := hide hs
      have HOwn := hide hown
      clear hu hs hown
      go_wp2_with fail
      refine (rotateR_any u _).mono ?_
      rintro e w1 ⟨rfl, hB1⟩
      rw [rotR_eq]
      have hown1 := HOwn.out.below hB1 (Nat.le_refl _)
      have hz1 := hB1.size
      have HL := hide (hB.trans (hB1.mono hsz))
      clear hB1 g0 g1 g2 g3 g4 g5 g6 g7 g8
      go_wp2_with (at_builtin; refine wpList_append1 rfl _ _ _ rfl Tryz.underlying28 infoT rfl (by omega) encT_len encT_one rfl (hown1.alloc _) w1.heap.size 1 (rotT u) rfl (Blk.new _ _ _) (by unfold maxLen; omega) (by omega) (by simp; omega) ?_; intro g cap w2 hown2 hg2 hB2 hat2 hgb2 hlt2)
      go_roundw
      case rel => exact ⟨k + 1, by omega, by go_num, by rw [map_take_snoc' _ _ _ _ HU.out]; exact hown2, (HL.out.alloc (by omega) _).trans hB2⟩
      case measure => simp [intOf]; omega
    · have hk : k = ts.length := by omega
      subst hk
      rw [List.take_length] at hown
      have hlen : (ts.map rotT).length = ts.length := List.length_map _
      have hsort := sort04_any ts.length A1 c1 (ts.map rotT) wr (by rw [hlen]; exact Nat.le_refl _) (hown.sl encT_len (Nat.le_refl _)) (by rw [hlen]; exact hl) (by rw [hlen]; exact hown.place.1)
        (fun t ht => by obtain ⟨u, hu, rfl⟩ := List.mem_map.1 ht; exact fitsT_rot (HF.out u hu))
      rw [hlen] at hsort
      have HO := hide hsort
      clear hs hown hsort hlen
      go_wp2_with (go_at_call 67; refine (unhide HO).mono ?_; rintro e w1 ⟨A2, c2, rfl, hB2, hs2, hc2⟩)
      go_ret
      exact ⟨A2, c2, rfl, hB.trans (hB2.mono hsz), hs2, hc2⟩
end Go.Proofs.YtelfnmohpjkilaaGreatDoor
namespace Go.Proofs.YtelfnmohpjkilaaGreatDoor
open Go.RowKit Go.Sort
theorem nearT_symm {x y : Tri} (h : nearT x y = true) : nearT y x = true := by
  rw [nearT_iff] at *
  rcases h with ⟨e, h1, h2⟩ | rfl
  · exact .inl ⟨swapE e, h2, h1⟩
  · exact .inr rfl
theorem nearI_symm {c : List Tri} {i j : Nat} (h : nearI c i j) : nearI c j i := by
  obtain ⟨x, y, h1, h2, h3⟩ := h
  exact ⟨y, x, h2, h1, nearT_symm h3⟩
/-- The reference's way to choose. -/
theorem RootS.filt {S : Nat → Nat → Bool} {R : Nat → Nat} (h : RootS S R) (n : Nat) : partsI S n = ((List.range n).filter fun k => decide (R k = k)).map fun k => (List.range n).filter fun j => decide (R j = k) := by
  unfold partsI headsI
  have e : headI S = fun k => decide (R k = k) := by
    funext k
    rw [Bool.eq_iff_iff, h.head, decide_eq_true_eq]
  rw [e]
  refine List.map_congr_left fun k hk => List.filter_congr fun j _ => ?_
  have hk : R k = k := by simpa using (List.mem_filter.1 hk).2
  rw [Bool.eq_iff_iff, h.tells, decide_eq_true_eq, hk]
  exact ⟨Eq.symm, Eq.symm⟩
end Go.Proofs.YtelfnmohpjkilaaGreatDoor
namespace Go.Proofs.YtelfnmohpjkilaaGreatDoor
open Go.RowKit Go.Sort
/-- Under way: each number is of its own class and no greater than its place. -/
def PrtI (c : List Tri) (xs : List Nat) : Prop := xs.length = c.length ∧ ∀ k, numR xs k ≤ k ∧ Eqv (nearI c) k (numR xs k)
theorem PrtI.start (c : List Tri) : PrtI c (List.range c.length) := by
  refine ⟨List.length_range, fun k => ?_⟩
  have : numR (List.range c.length) k = k := by
    unfold numR
    rcases Nat.lt_or_ge k c.length with h | h
    · rw [List.getElem?_range h]; rfl
    · rw [List.getElem?_eq_none (by rw [List.length_range]; exact h)]; rfl
  rw [this]
  exact ⟨Nat.le_refl _, Eqv.refl _ _⟩
def set2 (xs : List Nat) (j k m : Nat) : List Nat := (xs.set j m).set k m
theorem set2_get {xs : List Nat} {j k m i : Nat} (hj : j < xs.length) (hk : k < xs.length) : numR (set2 xs j k m) i = if i = k ∨ i = j then m else numR xs i := by
  unfold numR set2
  rw [List.getElem?_set, List.length_set]
  by_cases h1 : k = i
  · subst h1
    rw [if_pos rfl, if_pos hk, if_pos (.inl rfl)]; rfl
  · rw [if_neg h1, List.getElem?_set]
    by_cases h2 : j = i
    · subst h2
      rw [if_pos rfl, if_pos hj, if_pos (.inr rfl)]; rfl
    · rw [if_neg h2, if_neg (fun h => by rcases h with h | h; exact h1 h.symm; exact h2 h.symm)]
theorem PrtI.join {c : List Tri} {xs : List Nat} (h : PrtI c xs) {j k : Nat} (hn : nearI c j k) : PrtI c (set2 xs j k (min (numR xs j) (numR xs k))) := by
  obtain ⟨x, y, hx, hy, _⟩ := id hn
  have hj : j < xs.length := by rw [h.1]; exact (List.getElem?_eq_some_iff.1 hx).1
  have hk : k < xs.length := by rw [h.1]; exact (List.getElem?_eq_some_iff.1 hy).1
  refine ⟨by unfold set2; rw [List.length_set, List.length_set]; exact h.1, fun i => ?_⟩
  rw [set2_get hj hk]
  have h1 := h.2 j
  have h2 := h.2 k
  have hjk := Eqv.of hn
  split
  · rename_i hi
    have hm : min (numR xs j) (numR xs k) = numR xs j ∨ min (numR xs j) (numR xs k) = numR xs k := by omega
    rcases hi with rfl | rfl
    · refine ⟨by omega, ?_⟩
      rcases hm with hm | hm <;> rw [hm]
      · exact hjk.symm.trans h1.2
      · exact h2.2
    · refine ⟨by omega, ?_⟩
      rcases hm with hm | hm <;> rw [hm]
      · exact h1.2
      · exact hjk.trans h2.2
  · exact h.2 i
def sumN (xs : List Nat) : Nat := xs.foldr (· + ·) 0
theorem sumN_set {xs : List Nat} {j : Nat} {x m : Nat} (hx : xs[j]? = some x) : sumN (xs.set j m) + x = sumN xs + m := by
  induction xs generalizing j with
  | nil => simp at hx
  | cons a xs ih =>
    cases j with
    | zero =>
      simp only [List.getElem?_cons_zero, Option.some.injEq] at hx
      subst hx
      rw [List.set_cons_zero]; unfold sumN; rw [List.foldr_cons, List.foldr_cons]; omega
    | succ j =>
      rw [List.getElem?_cons_succ] at hx
      have := ih hx
      rw [List.set_cons_succ]; unfold sumN at this ⊢; rw [List.foldr_cons, List.foldr_cons]; omega
theorem set2_sum {xs : List Nat} {j k x y : Nat} (hj : xs[j]? = some x) (hk : xs[k]? = some y) (hjk : j ≠ k) (hne : x ≠ y) : sumN (set2 xs j k (min x y)) < sumN xs := by
  have h1 := sumN_set (m := min x y) hj
  have hk' : (xs.set j (min x y))[k]? = some y := by rw [List.getElem?_set_ne hjk]; exact hk
  have h2 := sumN_set (m := min x y) hk'
  unfold set2
  omega
/-- At the end: no two near ones differ. -/
theorem PrtI.tells {c : List Tri} {xs : List Nat} (h : PrtI c xs) (hd : ∀ j k, j < k → nearI c j k → numR xs j = numR xs k) : Tells (numR xs) (nearI c) where
  has a b hab := by
    rcases Nat.lt_trichotomy a b with h1 | h1 | h1
    · exact hd a b h1 hab
    · rw [h1]
    · exact (hd b a h1 (nearI_symm hab)).symm
  conn i j hij := (h.2 i).2.trans (by rw [hij]; exact (h.2 j).2.symm)
theorem PrtI.root {c : List Tri} {xs : List Nat} (h : PrtI c xs) (hd : ∀ j k, j < k → nearI c j k → numR xs j = numR xs k) {S : Nat → Nat → Bool} (hS : ClsS c S) : RootS S (numR xs) :=
  RootS.of_tells hS (h.tells hd) (fun k => (h.2 k).1) fun k => ((h.tells hd).iff _ _).2 (h.2 k).2.symm
end Go.Proofs.YtelfnmohpjkilaaGreatDoor
namespace Go.Proofs.YtelfnmohpjkilaaGreatDoor
open Go.RowKit Go.Sort
/-- Corner i of s and the one behind it are corners of t the other way. -/
def nearJ (s t : Tri) (i j : Nat) : Prop := corner s i = corner t ((j + 1) % 3) ∧ corner s ((i + 1) % 3) = corner t j
theorem nearJ_edge {s t : Tri} {i j : Nat} (h : nearJ s t i j) (hi : i < 3) (hj : j < 3) : nearT s t = true := by
  refine nearT_iff.2 (.inl ⟨(corner s i, corner s ((i + 1) % 3)), ?_, ?_⟩)
  · rcases (show i = 0 ∨ i = 1 ∨ i = 2 by omega) with rfl | rfl | rfl <;> simp [edges3, corner]
  · rw [h.1, h.2]
    rcases (show j = 0 ∨ j = 1 ∨ j = 2 by omega) with rfl | rfl | rfl <;> simp [edges3, corner, swapE]
theorem nearJ_none {s t : Tri} (h : ∀ i, i < 3 → ∀ j, j < 3 → ¬ nearJ s t i j) : nearT s t = decide (s = t) := by
  rw [Bool.eq_iff_iff, nearT_iff, decide_eq_true_eq]
  constructor
  · rintro (⟨e, h1, h2⟩ | h3)
    · exfalso
      have k1 : ∃ i, i < 3 ∧ e = (corner s i, corner s ((i + 1) % 3)) := by
        simp only [edges3, List.mem_cons, List.not_mem_nil, or_false] at h1
        rcases h1 with rfl | rfl | rfl
        · exact ⟨0, by omega, rfl⟩
        · exact ⟨1, by omega, rfl⟩
        · exact ⟨2, by omega, rfl⟩
      have k2 : ∃ j, j < 3 ∧ swapE e = (corner t j, corner t ((j + 1) % 3)) := by
        simp only [edges3, List.mem_cons, List.not_mem_nil, or_false] at h2
        rcases h2 with h2 | h2 | h2
        · exact ⟨0, by omega, h2⟩
        · exact ⟨1, by omega, h2⟩
        · exact ⟨2, by omega, h2⟩
      obtain ⟨i, hi, rfl⟩ := k1
      obtain ⟨j, hj, e⟩ := k2
      exact h i hi j hj ⟨congrArg Prod.snd e, congrArg Prod.fst e⟩
    · exact h3
  · exact .inr
theorem cor_fits4 {t : Tri} (h : fitsT t) (i : Nat) : fitsP (corner t i) := by
  unfold corner
  split
  · exact h.1
  · split
    · exact h.2.1
    · exact h.2.2
set_option maxRecDepth 100000 in
set_option maxHeartbeats 32000000 in
theorem neigh_any (s t : Tri) (hfs : fitsT s) (hft : fitsT t) (w : World) : Calls Tryz.prog 73 #[vT s, vT t] w fun e w' => e = .returned (.bool (nearT s t)) ∧ Below w.heap.size w w' := by
  have HF := hide (And.intro hfs hft)
  have heq := eqT s t hfs hft
  have HQ := hide heq
  clear hfs hft heq
  go_enter Tryz.func73, Tryz.ntmps73
  go_wp2_with fail
  obtain ⟨X, hX⟩ : ∃ X, X = (w.alloc (.cells (encT s).toArray 58)).alloc (.cells (encT t).toArray 58) := ⟨_, rfl⟩
  have hX' : (w.alloc (.cells #[.int .i64 s.1.1, .int .i64 s.1.2.1, .int .i64 s.1.2.2, .int .i64 s.2.1.1, .int .i64 s.2.1.2.1, .int .i64 s.2.1.2.2, .int .i64 s.2.2.1, .int .i64 s.2.2.2.1, .int .i64 s.2.2.2.2] 58)).alloc (.cells #[.int .i64 t.1.1, .int .i64 t.1.2.1, .int .i64 t.1.2.2, .int .i64 t.2.1.1, .int .i64 t.2.1.2.1, .int .i64 t.2.1.2.2, .int .i64 t.2.2.1, .int .i64 t.2.2.2.1, .int .i64 t.2.2.2.2] 58) = X := hX.symm
  rw [hX']
  obtain ⟨sb, hsb⟩ : ∃ g, g = w.heap.size := ⟨_, rfl⟩
  obtain ⟨tb, htb⟩ : ∃ g, g = w.heap.size + 1 := ⟨_, rfl⟩
  have hbs : Blk X sb 58 (encT s).toArray := by rw [hX, hsb]; exact (Blk.new _ _ _).alloc _
  have hbt : Blk X tb 58 (encT t).toArray := by rw [hX, htb]; exact Blk.new' _ _ _ _ (by simp)
  have hBX : Below w.heap.size w X := by rw [hX]; exact ((Below.refl _ w).alloc (Nat.le_refl _) _).alloc (by simp) _
  rw [← htb, ← hsb]
  have HX := hide (And.intro hbs (And.intro hbt hBX))
  clear hbs hbt hBX hX hX' hsb htb
  go_loopw [5] (fun iv wr => ∃ i m : Nat, i ≤ 3 ∧ iv = .int .i64 i ∧ (∀ a, a < i → ∀ b, b < 3 → ¬ nearJ s t a b) ∧ wr = X.drewN m) (fun iv _ => 3 - (intOf iv).toNat)
  case atStart => exact ⟨0, 0, by omega, rfl, fun a h => absurd h (by omega), rfl⟩
  case round =>
    obtain ⟨i, m0, hi, rfl, hno, rfl⟩ := hrel
    by_cases hlt : i < 3
    · have i1 : (i : Int) < 3 := by omega
      have HN := hide hno
      clear hno
      go_wp2_with fail
      go_loopw [6] (fun jv wr => ∃ j m : Nat, j ≤ 3 ∧ jv = .int .i64 j ∧ (∀ b, b < j → ¬ nearJ s t i b) ∧ wr = X.drewN m) (fun jv _ => 3 - (intOf jv).toNat)
      case atStart => exact ⟨0, m0, by omega, rfl, fun b h => absurd h (by omega), rfl⟩
      case round =>
        obtain ⟨j, m, hj, rfl, hnj, rfl⟩ := hrel
        by_cases hlj : j < 3
        · have i2 : (j : Int) < 3 := by omega
          obtain ⟨j1, hj1⟩ : ∃ a, a = (j + 1) % 3 := ⟨_, rfl⟩
          obtain ⟨i3, hi3⟩ : ∃ a, a = (i + 1) % 3 := ⟨_, rfl⟩
          have lj1 : j1 < 3 := by omega
          have li1 : i3 < 3 := by omega
          have mj : ((j : Int) + 1) % 3 = (j1 : Int) := by omega
          have mi : ((i : Int) + 1) % 3 = (i3 : Int) := by omega
          have tj : ((j : Int) + 1).tmod 3 = (j1 : Int) := by rw [Int.tmod_eq_emod_of_nonneg (by omega)]; exact mj
          have ti : ((i : Int) + 1).tmod 3 = (i3 : Int) := by rw [Int.tmod_eq_emod_of_nonneg (by omega)]; exact mi
          have k1 : (j1 : Int) < 3 := by omega
          have k2 : (i3 : Int) < 3 := by omega
          obtain ⟨P, hP⟩ : ∃ p, p = corner s i := ⟨_, rfl⟩
          obtain ⟨Q, hQ⟩ : ∃ p, p = corner t j1 := ⟨_, rfl⟩
          obtain ⟨R, hR⟩ : ∃ p, p = corner s i3 := ⟨_, rfl⟩
          obtain ⟨U, hU⟩ : ∃ p, p = corner t j := ⟨_, rfl⟩
          obtain ⟨a0, a1, a2⟩ := cor_cells HX.out.1 hlt
          obtain ⟨b0, b1, b2⟩ := cor_cells HX.out.2.1 lj1
          obtain ⟨c0, c1, c2⟩ := cor_cells HX.out.1 li1
          obtain ⟨d0, d1, d2⟩ := cor_cells HX.out.2.1 hlj
          have e1 := eqP P Q (by rw [hP]; exact cor_fits4 HF.out.1 _) (by rw [hQ]; exact cor_fits4 HF.out.2 _)
          have e2 := eqP R U (by rw [hR]; exact cor_fits4 HF.out.1 _) (by rw [hU]; exact cor_fits4 HF.out.2 _)
          rw [← hP] at a0 a1 a2
          rw [← hQ] at b0 b1 b2
          rw [← hR] at c0 c1 c2
          rw [← hU] at d0 d1 d2
          have hiff : nearJ s t i j ↔ P = Q ∧ R = U := by unfold nearJ; rw [hP, hQ, hR, hU, hj1, hi3]
          have hls := HX.out.1.lt
          have hlu := HX.out.2.1.lt
          have HJ := hide (And.intro hnj hiff)
          clear hnj hiff hP hQ hR hU hj1 hi3 hj
          by_cases h1 : P = Q
          · rw [decide_eq_true h1] at e1
            by_cases h2 : R = U
            · rw [decide_eq_true h2] at e2
              have HR := hide (nearJ_edge (HJ.out.2.2 ⟨h1, h2⟩) hlt hlj)
              clear h1 h2
              go_wp2_with fail
              go_quiet (fail)
              go_wp2
              go_ret
              exact ⟨(by rw [HR.out]; try rfl), below_drewN (below_drewN HX.out.2.2 _) _⟩
            · rw [decide_eq_false h2] at e2
              have HR := hide (show ∀ b, b < j + 1 → ¬ nearJ s t i b from fun b hb => by
                rcases Nat.lt_or_ge b j with h | h
                · exact HJ.out.1 b h
                · obtain rfl : b = j := by omega
                  exact fun h => h2 (HJ.out.2.1 h).2)
              clear h1 h2
              go_wp2_with fail
              go_quiet (fail)
              go_wp2
              go_roundw
              case rel => exact ⟨j + 1, m + nq, by omega, by go_num, HR.out, rfl⟩
              case measure => (simp [intOf] <;> omega)
          · rw [decide_eq_false h1] at e1
            have HR := hide (show ∀ b, b < j + 1 → ¬ nearJ s t i b from fun b hb => by
              rcases Nat.lt_or_ge b j with h | h
              · exact HJ.out.1 b h
              · obtain rfl : b = j := by omega
                exact fun h => h1 (HJ.out.2.1 h).1)
            clear h1
            go_wp2_with fail
            go_quiet (fail)
            go_wp2
            go_roundw
            case rel => exact ⟨j + 1, m + nq, by omega, by go_num, HR.out, rfl⟩
            case measure => (simp [intOf] <;> omega)
        · obtain rfl : j = 3 := by omega
          have i2 : ¬ ((3 : Nat) : Int) < 3 := by omega
          have HR := hide (show ∀ a, a < i + 1 → ∀ b, b < 3 → ¬ nearJ s t a b from fun a ha b hb => by
            rcases Nat.lt_or_ge a i with h | h
            · exact HN.out a h b hb
            · obtain rfl : a = i := by omega
              exact hnj b hb)
          clear hnj
          go_wp2
          go_roundw
          case rel => exact ⟨i + 1, m, by omega, by go_num, HR.out, rfl⟩
          case measure => (simp [intOf] <;> omega)
    · obtain rfl : i = 3 := by omega
      have i1 : ¬ ((3 : Nat) : Int) < 3 := by omega
      have hn := nearJ_none hno
      have q0 := HX.out.1.cell 0
      have q1 := HX.out.1.cell 1
      have q2 := HX.out.1.cell 2
      have q3 := HX.out.1.cell 3
      have q4 := HX.out.1.cell 4
      have q5 := HX.out.1.cell 5
      have q6 := HX.out.1.cell 6
      have q7 := HX.out.1.cell 7
      have q8 := HX.out.1.cell 8
      have r0 := HX.out.2.1.cell 0
      have r1 := HX.out.2.1.cell 1
      have r2 := HX.out.2.1.cell 2
      have r3 := HX.out.2.1.cell 3
      have r4 := HX.out.2.1.cell 4
      have r5 := HX.out.2.1.cell 5
      have r6 := HX.out.2.1.cell 6
      have r7 := HX.out.2.1.cell 7
      have r8 := HX.out.2.1.cell 8
      simp only [encT, List.getElem?_toArray, List.getElem?_cons_zero, List.getElem?_cons_succ] at q0 q1 q2 q3 q4 q5 q6 q7 q8 r0 r1 r2 r3 r4 r5 r6 r7 r8
      have heq := HQ.out
      have HR := hide hn
      clear hno hn
      go_wp2
      go_ret
      exact ⟨(by rw [HR.out]; try rfl), below_drewN HX.out.2.2 _⟩
end Go.Proofs.YtelfnmohpjkilaaGreatDoor
namespace Go.Proofs.YtelfnmohpjkilaaGreatDoor
open Go.RowKit Go.Sort Go.WideMaps Go.Maps
def doneJ (C : List Tri) (xs : List Nat) (K J : Nat) : Prop := ∀ j k, j < k → nearI C j k → (k < K ∨ (k = K ∧ j < J)) → numR xs j = numR xs k
/-- A sweep under way: nothing changed yet, or the sum has fallen. -/
def SwpS (C : List Tri) (xs0 xs : List Nat) (b : Bool) (K J : Nat) : Prop := (b = false ∧ xs = xs0 ∧ doneJ C xs0 K J) ∨ (b = true ∧ sumN xs < sumN xs0)
theorem SwpS.next {C : List Tri} {xs0 xs : List Nat} {b : Bool} {K J : Nat} (h : SwpS C xs0 xs b K J) (hn : nearI C J K → numR xs J = numR xs K) : SwpS C xs0 xs b K (J + 1) := by
  rcases h with ⟨h1, h2, h3⟩ | h
  · refine .inl ⟨h1, h2, fun j k hjk hnr hc => ?_⟩
    rcases hc with hc | ⟨rfl, hc⟩
    · exact h3 j k hjk hnr (.inl hc)
    · rcases Nat.lt_or_ge j J with h4 | h4
      · exact h3 j k hjk hnr (.inr ⟨rfl, h4⟩)
      · obtain rfl : j = J := by omega
        rw [← h2]; exact hn hnr
  · exact .inr h
theorem SwpS.line {C : List Tri} {xs0 xs : List Nat} {b : Bool} {K : Nat} (h : SwpS C xs0 xs b K K) : SwpS C xs0 xs b (K + 1) 0 := by
  rcases h with ⟨h1, h2, h3⟩ | h
  · refine .inl ⟨h1, h2, fun j k hjk hnr hc => ?_⟩
    rcases hc with hc | ⟨_, hc⟩
    · rcases Nat.lt_or_ge k K with h4 | h4
      · exact h3 j k hjk hnr (.inl h4)
      · exact h3 j k hjk hnr (.inr ⟨by omega, by omega⟩)
    · omega
  · exact .inr h
theorem SwpS.drop {C : List Tri} {xs0 xs ys : List Nat} {b : Bool} {K J K' J' : Nat} (h : SwpS C xs0 xs b K J) (hs : sumN ys < sumN xs) : SwpS C xs0 ys true K' J' := by
  rcases h with ⟨_, h2, _⟩ | ⟨_, h2⟩
  · exact .inr ⟨rfl, by rw [← h2]; exact hs⟩
  · exact .inr ⟨rfl, Nat.lt_trans hs h2⟩
def sumW (w : World) (g : Nat) : Nat := match w.heap[g]? with | some (.cells cs _ _) => sumN (cs.toList.map fun v => (intOf v).toNat) | _ => 0
theorem sumW_row {w : World} {g : Nat} {xs : List Nat} (h : RowN4 w g xs) : sumW w g = sumN xs := by
  have h' : w.heap[g]? = some (.cells (xs.map fun k : Nat => Value.int .i64 (k : Int)).toArray 3 (0, 0)) := h
  unfold sumW
  rw [h']
  show sumN (((xs.map fun k : Nat => Value.int .i64 (k : Int)).toArray.toList).map fun v => (intOf v).toNat) = _
  rw [List.map_map]
  congr 1
  clear h h'
  induction xs with
  | nil => rfl
  | cons x xs ih => rw [List.map_cons, ih]; simp [intOf]
def grV4 (v : Value) : Nat := match v with | .bool true => 1 | _ => 0
theorem pick_step {C : List Tri} {t : Tri} {j : Nat} (ht : C[j]? = some t) (f : Nat → Bool) : pickL C ((List.range (j + 1)).filter f) = if f j = true then pickL C ((List.range j).filter f) ++ [t] else pickL C ((List.range j).filter f) := by
  rw [List.range_succ, List.filter_append]
  by_cases h : f j = true
  · rw [if_pos h, List.filter_cons_of_pos h, List.filter_nil, pickL_snoc ht]
  · rw [if_neg h, List.filter_cons_of_neg h, List.filter_nil, List.append_nil]
set_option maxRecDepth 100000 in
set_option maxHeartbeats 64000000 in
theorem parts04_any (A : Option Addr) (c : Nat) (ts : List Tri) (w : World) (hs : Sl encT 9 w w.heap.size A ts) (hl : ts.length ≤ 100000) (hf : ∀ t ∈ ts, fitsT t) (S : Nat → Nat → Bool) (hS : ClsS (canonO ts) S) :
    Calls Tryz.prog 35 #[.slice A ts.length c] w fun e w' => ∃ v, e = .returned v ∧ Pcs encT 9 58 28 w' w.heap.size v (partsT (canonO ts) S (canonO ts).length) ∧ Below w.heap.size w w' := by
  have hcan := canon04_any A c ts w hs (by omega) hf
  have hfC : ∀ t ∈ canonO ts, fitsT t := fun t ht => fitsT_canon hf t ht
  have hCl := canonO_length ts
  obtain ⟨C, hC⟩ : ∃ C, C = canonO ts := ⟨_, rfl⟩
  rw [← hC] at hcan hS hfC hCl ⊢
  obtain ⟨n, hn⟩ : ∃ n, n = ts.length := ⟨_, rfl⟩
  rw [← hn] at hcan hl hCl ⊢
  have hmk := mk_n4 n (by omega)
  obtain ⟨Z0, hZ0⟩ : ∃ Z, Z = ((List.replicate n 0).map fun k : Nat => Value.int .i64 (k : Int)).toArray := ⟨_, rfl⟩
  rw [← hZ0] at hmk
  have HC := hide (And.intro hfC (And.intro hCl (And.intro hS hZ0)))
  have HK := hide hcan
  clear hs hf hS hC hn hfC hCl hZ0 hcan
  go_enter Tryz.func35, Tryz.ntmps35
  go_upto_region 2 with (go_at_call 31; refine HK.out.mono ?_; rintro e W1 ⟨A1, c1, rfl, hB1, hs1, hc1⟩; have H1 := hide (And.intro hB1 (And.intro hs1 hc1)); clear hB1 hs1 hc1)
  go_upto_region 3 with fail
  obtain ⟨gp, hgp⟩ : ∃ g, g = W1.heap.size := ⟨_, rfl⟩
  obtain ⟨X, hX⟩ : ∃ X, X = W1.alloc (.cells Z0 3) := ⟨_, rfl⟩
  rw [← hX, ← hgp]
  have hrX : RowN4 X gp (fillR n 0) := by
    rw [hX, hgp]
    have : fillR n 0 = List.replicate n 0 := by unfold fillR; simp
    rw [this]
    have h := Blk.new W1 3 Z0
    rw [HC.out.2.2.2] at h ⊢
    exact h
  have hBX : Below W1.heap.size W1 X := by rw [hX]; exact (Below.refl _ W1).alloc (Nat.le_refl _) _
  have HX := hide (And.intro hrX (And.intro hBX hgp))
  have HXg := hide hgp
  clear hrX hBX hX hgp hmk
  go_wp2_with fail
  go_loopw [5] (fun iv wr => ∃ k : Nat, k ≤ n ∧ iv = .int .i64 k ∧ RowN4 wr gp (fillR n k) ∧ Below W1.heap.size W1 wr) (fun iv _ => n - (intOf iv).toNat)
  case atStart => exact ⟨0, by omega, rfl, HX.out.1, HX.out.2.1⟩
  case round =>
    obtain ⟨k, hk, rfl, hr, hB⟩ := hrel
    obtain ⟨V, rfl⟩ : ∃ V, V = wr := ⟨_, rfl⟩
    by_cases hlt : k < n
    · have i1 : (k : Int) < (n : Int) := by omega
      have c1 : V.cell? ⟨gp, k, none⟩ = some (.int .i64 (0 : Nat)) := hr.cell (by unfold fillR; rw [List.getElem?_append_right (by simp), List.length_range, Nat.sub_self, List.getElem?_replicate, if_pos (by omega)])
      have f1 : V.frozen? ⟨gp, k, none⟩ = false := hr.frozen k
      have hlg := Blk.lt hr
      have hset := hr.set k k
      rw [fillR_set hlt] at hset
      have HE := hide (And.intro hset (hB.setCell (p := ⟨gp, k, none⟩) (by rw [HX.out.2.2]; exact Nat.le_refl _) (.int .i64 (k : Int))))
      clear hr hset hB
      go_wp2
      go_roundw
      case rel => exact ⟨k + 1, by omega, by go_num, HE.out.1, HE.out.2⟩
      case measure => (simp [intOf]; try omega)
    · obtain rfl : k = n := by omega
      rw [fillR_end] at hr
      have hst := PrtI.start C
      rw [HC.out.2.1] at hst
      have HV := hide (And.intro hr (And.intro hB hst))
      have i1 : ¬ (k : Int) < (k : Int) := by omega
      clear hr hB hst hlt hk
      go_wp2_with fail
      go_loopw [6] (fun bv wr => ∃ (b : Bool) (xs : List Nat), bv = .bool b ∧ PrtI C xs ∧ RowN4 wr gp xs ∧ (b = false → doneJ C xs k 0) ∧ Below W1.heap.size W1 wr) (fun bv wr => 2 * sumW wr gp + grV4 bv)
      case atStart => exact ⟨true, _, rfl, HV.out.2.2, HV.out.1, (fun h => by cases h), HV.out.2.1⟩
      case round =>
        clear HV HX
        obtain ⟨V0, rfl⟩ : ∃ V, V = wr := ⟨_, rfl⟩
        obtain ⟨b, xs, rfl, hP, hr, hdn, hB⟩ := hrel
        cases b with
        | true =>
          have hsw := sumW_row hr
          have HSw := hide hsw
          have HV0 := hide (And.intro hP (And.intro hr hB))
          clear hP hr hdn hB hsw
          go_wp2_with fail
          go_loopw [6, 7] (fun bv kv wr => ∃ (K : Nat) (b : Bool) (ys : List Nat), K ≤ k ∧ kv = .int .i64 K ∧ bv = .bool b ∧ PrtI C ys ∧ RowN4 wr gp ys ∧ SwpS C xs ys b K 0 ∧ Below W1.heap.size W1 wr) (fun _ kv _ => k - (intOf kv).toNat)
          case atStart => exact ⟨0, false, xs, by omega, rfl, rfl, HV0.out.1, HV0.out.2.1, .inl ⟨rfl, rfl, fun j k _ _ h => by omega⟩, HV0.out.2.2⟩
          case round =>
            clear HV0
            obtain ⟨V1, rfl⟩ : ∃ V, V = wr := ⟨_, rfl⟩
            obtain ⟨K, b, ys, hK, rfl, rfl, hP, hr, hsp, hB⟩ := hrel
            by_cases hKn : K < k
            · have i2 : (K : Int) < (k : Int) := by omega
              obtain ⟨tk, htk⟩ : ∃ t, C[K]? = some t := ⟨_, List.getElem?_eq_getElem (by rw [HC.out.2.1]; exact hKn)⟩
              have HT := hide htk
              have HV1 := hide (And.intro hP (And.intro hr (And.intro hsp hB)))
              clear hP hr hsp hB htk
              go_wp2_with fail
              go_loopw [6, 8] (fun bv jv wr => ∃ (J : Nat) (b : Bool) (ys : List Nat), J ≤ K ∧ jv = .int .i64 J ∧ bv = .bool b ∧ PrtI C ys ∧ RowN4 wr gp ys ∧ SwpS C xs ys b K J ∧ Below W1.heap.size W1 wr) (fun _ jv _ => K - (intOf jv).toNat)
              case atStart => exact ⟨0, b, ys, by omega, rfl, rfl, HV1.out.1, HV1.out.2.1, HV1.out.2.2.1, HV1.out.2.2.2⟩
              case round =>
                clear HV1
                obtain ⟨V2, rfl⟩ : ∃ V, V = wr := ⟨_, rfl⟩
                obtain ⟨J, b, ys, hJ, rfl, rfl, hP, hr, hsp, hB⟩ := hrel
                by_cases hJK : J < K
                · have i3 : (J : Int) < (K : Int) := by omega
                  have i4 : (J : Int) < (k : Int) := by omega
                  have hyl : ys.length = k := by rw [hP.1, HC.out.2.1]
                  obtain ⟨x, hx⟩ : ∃ x, ys[J]? = some x := ⟨_, List.getElem?_eq_getElem (by rw [hyl]; omega)⟩
                  obtain ⟨y, hy⟩ : ∃ y, ys[K]? = some y := ⟨_, List.getElem?_eq_getElem (by rw [hyl]; omega)⟩
                  have nx : numR ys J = x := by unfold numR; rw [hx]; rfl
                  have ny : numR ys K = y := by unfold numR; rw [hy]; rfl
                  have c1 := hr.cell hx
                  have c2 := hr.cell hy
                  have hlg := Blk.lt hr
                  by_cases hxy : x = y
                  · have t0 : ((x : Int) == (y : Int)) = true := by rw [hxy]; simp
                    have HE := hide (And.intro hP (And.intro hr (And.intro (hsp.next fun _ => by rw [nx, ny, hxy]) hB)))
                    clear hP hr hsp hB hyl hx hy nx ny hxy
                    go_wp2_with fail
                    go_quiet (fail)
                    go_wp2
                    go_roundw
                    case rel => exact ⟨J + 1, b, ys, by omega, by go_num, rfl, HE.out.1, HE.out.2.1, HE.out.2.2.1, below_drewN HE.out.2.2.2 _⟩
                    case measure => (simp [intOf]; try omega)
                  · have t0 : ((x : Int) == (y : Int)) = false := beq_eq_false_iff_ne.2 (by omega)
                    obtain ⟨tj, htj⟩ : ∃ t, C[J]? = some t := ⟨_, List.getElem?_eq_getElem (by rw [HC.out.2.1]; omega)⟩
                    have hnb := fun W => neigh_any tj tk (HC.out.1 tj (List.mem_of_getElem? htj)) (HC.out.1 tk (List.mem_of_getElem? HT.out)) W
                    have hiff : nearI C J K ↔ nearT tj tk = true := ⟨fun ⟨a, b, h1, h2, h3⟩ => by rw [htj] at h1; rw [HT.out] at h2; rw [Option.some.inj h1, Option.some.inj h2]; exact h3, fun h => ⟨tj, tk, htj, HT.out, h⟩⟩
                    obtain ⟨nr, hnr⟩ : ∃ b, b = nearT tj tk := ⟨_, rfl⟩
                    rw [← hnr] at hnb hiff
                    have HN := hide hnb
                    have HE := hide (And.intro hP (And.intro hr (And.intro hsp (And.intro hB (And.intro hx (And.intro hy (And.intro hiff (And.intro htj (And.intro nx (And.intro ny hxy))))))))))
                    clear hP hr hsp hB hyl hx hy nx ny hxy hiff htj hnb hnr
                    go_wp2_with fail
                    go_quiet (fail)
                    go_upto_region 17 with fail
                    obtain ⟨R, hR⟩ : ∃ W, W = V2.drewN nq := ⟨_, rfl⟩
                    rw [← hR]
                    have hBR : Below V2.heap.size V2 R := by rw [hR]; exact below_drewN (Below.refl _ V2) nq
                    have hrR : RowN4 R gp ys := HE.out.2.1.below hBR (Blk.lt HE.out.2.1)
                    clear hR c1 c2
                    have hsR : Sl encT 9 R R.heap.size A1 C := (H1.out.2.1.below (HE.out.2.2.2.1.trans (hBR.mono HE.out.2.2.2.1.size))).more (Nat.le_trans HE.out.2.2.2.1.size hBR.size)
                    obtain ⟨tb, oo, hA, htb, g0, g1, g2, g3, g4, g5, g6, g7, g8⟩ := hsR.tri HE.out.2.2.2.2.2.2.2.1
                    obtain ⟨tb2, oo2, hA2, htb2, u0, u1, u2, u3, u4, u5, u6, u7, u8⟩ := hsR.tri HT.out
                    subst hA
                    injection hA2 with hA2
                    injection hA2 with hA2 hA3
                    subst hA2 hA3
                    have HR := hide (And.intro hBR hrR)
                    clear hBR hrR hsR htb2
                    go_still_tail 8, (by kernel_rfl)
                    repeat still_step
                    change wpList _ _ _ _ _ R.drew
                    cases nr with
                    | false =>
                      go_wp2_with (go_at_call 73; refine (HN.out R.drew).mono ?_; rintro e R2 ⟨rfl, hB2⟩; have hB2 : Below R.heap.size R R2 := (Below.refl R.heap.size R).drew.trans hB2; have HB2 := hide (HE.out.2.2.2.1.trans ((HR.out.1.trans (hB2.mono HR.out.1.size)).mono HE.out.2.2.2.1.size)); have hr2 : RowN4 R2 gp ys := Blk.below HR.out.2 hB2 (Blk.lt HR.out.2); have Hr2 := hide hr2; clear hB2 hr2)
                      go_roundw
                      case rel => exact ⟨J + 1, b, ys, by omega, by go_num, rfl, HE.out.1, Hr2.out, HE.out.2.2.1.next (fun h => by cases HE.out.2.2.2.2.2.2.1.1 h), HB2.out⟩
                      case measure => (simp [intOf]; try omega)
                    | true =>
                      go_upto_region 19 with (go_at_call 73; refine (HN.out R.drew).mono ?_; rintro e R2 ⟨rfl, hB2⟩; have hB2 : Below R.heap.size R R2 := (Below.refl R.heap.size R).drew.trans hB2; have HB2 := hide (HE.out.2.2.2.1.trans ((HR.out.1.trans (hB2.mono HR.out.1.size)).mono HE.out.2.2.2.1.size)); have hr2 : RowN4 R2 gp ys := Blk.below HR.out.2 hB2 (Blk.lt HR.out.2); have Hr2 := hide hr2; clear hB2 hr2)
                      clear g0 g1 g2 g3 g4 g5 g6 g7 g8 u0 u1 u2 u3 u4 u5 u6 u7 u8 htb hlg
                      have c1 := Hr2.out.cell HE.out.2.2.2.2.1
                      have c2 := Hr2.out.cell HE.out.2.2.2.2.2.1
                      have hlg := Blk.lt Hr2.out
                      obtain ⟨m, hm⟩ : ∃ m, m = min x y := ⟨_, rfl⟩
                      have e1 : min (x : Int) (y : Int) = (m : Int) := by omega
                      have hnear : nearI C J K := by simpa using HE.out.2.2.2.2.2.2.1
                      have hPj := HE.out.1.join hnear
                      rw [HE.out.2.2.2.2.2.2.2.2.1, HE.out.2.2.2.2.2.2.2.2.2.1, ← hm] at hPj
                      have hsum := set2_sum HE.out.2.2.2.2.1 HE.out.2.2.2.2.2.1 (by omega) HE.out.2.2.2.2.2.2.2.2.2.2
                      rw [← hm] at hsum
                      have hnext := (HE.out.2.2.1.drop (K' := K) (J' := J + 1) hsum)
                      have HQ := hide (And.intro hPj hnext)
                      clear hPj hsum hnext hnear hm
                      go_quiet (fail)
                      go_upto_region 20 with fail
                      obtain ⟨R3, hR3⟩ : ∃ W, W = R2.drewN nq := ⟨_, rfl⟩
                      rw [← hR3]
                      have hr3 : RowN4 R3 gp ys := by rw [hR3]; exact Hr2.out
                      have hB3 : Below W1.heap.size W1 R3 := by rw [hR3]; exact below_drewN HB2.out _
                      clear hR3 c1 c2 hlg
                      have c1 := hr3.cell HE.out.2.2.2.2.1
                      have c2 := hr3.cell HE.out.2.2.2.2.2.1
                      have f1 : R3.frozen? ⟨gp, J, none⟩ = false := hr3.frozen J
                      have f2 : R3.frozen? ⟨gp, K, none⟩ = false := hr3.frozen K
                      have hlg := Blk.lt hr3
                      have hgw := HXg.out
                      have hset : RowN4 ((R3.setCell ⟨gp, J, none⟩ (.int .i64 (m : Int))).setCell ⟨gp, K, none⟩ (.int .i64 (m : Int))) gp (set2 ys J K m) := (hr3.set J m).set K m
                      have hBs := (hB3.setCell (p := ⟨gp, J, none⟩) (by dsimp only; omega) (.int .i64 (m : Int))).setCell (p := ⟨gp, K, none⟩) (by dsimp only; omega) (.int .i64 (m : Int))
                      have HW := hide (And.intro hset hBs)
                      clear hr3 hB3 hset hBs hgw
                      go_wp2
                      go_roundw
                      case rel => exact ⟨J + 1, true, set2 ys J K m, by omega, by go_num, rfl, HQ.out.1, HW.out.1, HQ.out.2, HW.out.2⟩
                      case measure => (simp [intOf]; try omega)
                · obtain rfl : J = K := by omega
                  have i3 : ¬ (J : Int) < (J : Int) := by omega
                  have HE := hide (And.intro hP (And.intro hr (And.intro hsp.line hB)))
                  clear hP hr hsp hB
                  go_wp2
                  go_roundw
                  case rel => exact ⟨J + 1, b, ys, by omega, by go_num, rfl, HE.out.1, HE.out.2.1, HE.out.2.2.1, HE.out.2.2.2⟩
                  case measure => (simp [intOf]; try omega)
            · obtain rfl : K = k := by omega
              have i2 : ¬ (K : Int) < (K : Int) := by omega
              have hsw2 := sumW_row hr
              have HE := hide (And.intro hP (And.intro hr (And.intro hsp (And.intro hB hsw2))))
              clear hP hr hsp hB hsw2
              go_wp2
              go_roundw
              case rel => exact ⟨b, ys, rfl, HE.out.1, HE.out.2.1, (fun h => by
                rcases HE.out.2.2.1 with ⟨_, h2, h3⟩ | ⟨h1, _⟩
                · rw [h2]; exact h3
                · rw [h] at h1; cases h1), HE.out.2.2.2.1⟩
              case measure =>
                rw [HE.out.2.2.2.2, HSw.out]
                rcases HE.out.2.2.1 with ⟨h1, h2, _⟩ | ⟨h1, h2⟩
                · rw [h1, h2]; simp [grV4]
                · rw [h1]; simp [grV4]; omega
        | false =>
          have hdone : ∀ j k', j < k' → nearI C j k' → numR xs j = numR xs k' := fun j k' hjk hnr => hdn rfl j k' hjk hnr (.inl (by obtain ⟨_, y, _, h, _⟩ := hnr; have := (List.getElem?_eq_some_iff.1 h).1; rw [HC.out.2.1] at this; exact this))
          have hroot := hP.root hdone HC.out.2.2.1
          have hfilt := hroot.filt k
          have hxl : xs.length = k := by rw [hP.1, HC.out.2.1]
          have HV0 := hide (And.intro hr (And.intro hB (And.intro hfilt hxl)))
          clear hP hr hdn hB hdone hroot hfilt hxl
          go_wp2_with fail
          go_loopw [11, 12] (fun ov iv wr => ∃ i : Nat, i ≤ k ∧ iv = .int .i64 i ∧ Pcs encT 9 58 28 wr V0.heap.size ov (((List.range i).filter fun a => decide (numR xs a = a)).map fun h => pickL C ((List.range k).filter fun j => decide (numR xs j = h))) ∧ Below V0.heap.size V0 wr) (fun _ iv _ => k - (intOf iv).toNat)
          case atStart => exact ⟨0, by omega, rfl, Pcs.nil, Below.refl _ _⟩
          case round =>
            obtain ⟨i, hi, rfl, hp, hB⟩ := hrel
            obtain ⟨V, rfl⟩ : ∃ V, V = wr := ⟨_, rfl⟩
            by_cases hik : i < k
            · have i2 : (i : Int) < (k : Int) := by omega
              obtain ⟨x, hx⟩ : ∃ x, xs[i]? = some x := ⟨_, List.getElem?_eq_getElem (by rw [HV0.out.2.2.2]; exact hik)⟩
              have nx : numR xs i = x := by unfold numR; rw [hx]; rfl
              have hrV : RowN4 V gp xs := HV0.out.1.below hB (Blk.lt HV0.out.1)
              have c1 := hrV.cell hx
              have hlg := Blk.lt hrV
              have hrs : (List.range (i + 1)).filter (fun a => decide (numR xs a = a)) = (List.range i).filter (fun a => decide (numR xs a = a)) ++ if x = i then [i] else [] := by
                rw [List.range_succ, List.filter_append]
                congr 1
                by_cases h : x = i
                · rw [if_pos h, List.filter_cons_of_pos (by rw [nx]; exact decide_eq_true h)]; rfl
                · rw [if_neg h, List.filter_cons_of_neg (by rw [nx]; simpa using h)]; rfl
              by_cases hxi : x = i
              · rw [if_pos hxi] at hrs
                have t0 : ((x : Int) != (i : Int)) = false := by rw [hxi]; simp
                have HV := hide (And.intro hp (And.intro hB (And.intro hrV hrs)))
                clear hp hB hrV hrs hx nx hxi
                go_wp2_with fail
                go_loopw [13, 14] (fun sv jv wr => ∃ j m : Nat, j ≤ k ∧ jv = .int .i64 j ∧ Own encT 9 58 wr V.heap.size sv m (pickL C ((List.range j).filter fun a => decide (numR xs a = i))) ∧ m ≤ j ∧ Below V.heap.size V wr) (fun _ jv _ => k - (intOf jv).toNat)
                case atStart => exact ⟨0, 0, by omega, rfl, Own.nil, by omega, Below.refl _ _⟩
                case round =>
                  obtain ⟨j, m, hj, rfl, ho, hm, hB⟩ := hrel
                  obtain ⟨R, rfl⟩ : ∃ V, V = wr := ⟨_, rfl⟩
                  by_cases hjk : j < k
                  · have i3 : (j : Int) < (k : Int) := by omega
                    obtain ⟨y, hy⟩ : ∃ y, xs[j]? = some y := ⟨_, List.getElem?_eq_getElem (by rw [HV0.out.2.2.2]; exact hjk)⟩
                    have ny : numR xs j = y := by unfold numR; rw [hy]; rfl
                    have hr2 : RowN4 R gp xs := Blk.below HV.out.2.2.1 hB (Blk.lt HV.out.2.2.1)
                    have c2 := hr2.cell hy
                    clear hr2
                    have hlg2 : gp < R.heap.size := by have := hB.size; omega
                    obtain ⟨t, ht⟩ : ∃ t, C[j]? = some t := ⟨_, List.getElem?_eq_getElem (by rw [HC.out.2.1]; exact hjk)⟩
                    have hps := pick_step ht (fun a => decide (numR xs a = i))
                    rw [ny] at hps
                    by_cases hyi : y = i
                    · rw [if_pos (decide_eq_true hyi)] at hps
                      have t1 : ((y : Int) == (i : Int)) = true := by rw [hyi]; simp
                      have hsl : Sl encT 9 R R.heap.size A1 C := (H1.out.2.1.below ((HV0.out.2.1.trans (HV.out.2.1.mono HV0.out.2.1.size)).trans (hB.mono (Nat.le_trans HV0.out.2.1.size HV.out.2.1.size)))).more (Nat.le_trans HV0.out.2.1.size (Nat.le_trans HV.out.2.1.size hB.size))
                      obtain ⟨tb, oo, hA, htb, g0, g1, g2, g3, g4, g5, g6, g7, g8⟩ := hsl.tri ht
                      subst hA
                      have HE := hide (And.intro ho (And.intro hB hps))
                      clear ho hB hps hsl ht hy ny hyi
                      have hzR := HE.out.2.1.size
                      go_wp2_with (at_builtin; refine wpList_append1 rfl _ _ _ rfl Tryz.underlying28 infoT rfl (by omega) encT_len encT_one rfl (HE.out.1.alloc _) R.heap.size 1 t rfl (Blk.new _ _ _) (by unfold maxLen; omega) (by omega) (by simp; omega) ?_; intro g9 cap9 w9 hown9 hg9 hB9 hat9 hgb9 hlt9)
                      refine ⟨⟨j + 1, m + 1, by omega, by push_cast; rfl, by rw [HE.out.2.2]; exact hown9, by omega, ?_⟩, by simp [intOf]; omega⟩
                      exact (HE.out.2.1.alloc hzR _).trans hB9
                    · rw [if_neg (by simpa using hyi)] at hps
                      have t1 : ((y : Int) == (i : Int)) = false := beq_eq_false_iff_ne.2 (by omega)
                      have HE := hide (And.intro ho (And.intro hB hps))
                      clear ho hB hps ht hy ny hyi
                      go_wp2
                      go_roundw
                      case rel => exact ⟨j + 1, m, by omega, by go_num, by rw [HE.out.2.2]; exact HE.out.1, by omega, HE.out.2.1⟩
                      case measure => (simp [intOf]; try omega)
                  · obtain rfl : j = k := by omega
                    have i3 : ¬ (j : Int) < (j : Int) := by omega
                    obtain ⟨g, cap, rfl⟩ := ho.form
                    have hpB := HV.out.1.below hB (Nat.le_refl _)
                    obtain ⟨ss, hss, hpp⟩ := hpB
                    have hB0 := HV.out.2.1.trans (hB.mono HV.out.2.1.size)
                    have hzz := hB0.size
                    have hPl : (pickL C ((List.range j).filter fun a => decide (numR xs a = i))).length = m := ho.1.symm
                    obtain ⟨Pk, hPk⟩ : ∃ P, P = pickL C ((List.range j).filter fun a => decide (numR xs a = i)) := ⟨_, rfl⟩
                    rw [← hPk] at ho hPl
                    obtain ⟨ps, hps⟩ : ∃ ps, ps = (((List.range i).filter fun a => decide (numR xs a = a)).map fun h => pickL C ((List.range j).filter fun b => decide (numR xs b = h))) := ⟨_, rfl⟩
                    rw [← hps] at hss hpp
                    have hnl : ps.length ≤ i := by rw [hps, List.length_map]; exact Nat.le_trans (List.length_filter_le _ _) (by rw [List.length_range]; exact Nat.le_refl _)
                    obtain ⟨no, hno⟩ : ∃ n, n = ps.length := ⟨_, rfl⟩
                    rw [← hno] at hss hnl
                    have hnew : (((List.range (i + 1)).filter fun a => decide (numR xs a = a)).map fun h => pickL C ((List.range j).filter fun b => decide (numR xs b = h))) = ps ++ [Pk] := by rw [HV.out.2.2.2, List.map_append, ← hps, hPk]; rfl
                    have HF := hide (And.intro hss (And.intro hpp (And.intro ho (And.intro hno (And.intro hB0 (And.intro hnew hPl))))))
                    have hVz := HV.out.2.1.size
                    clear hss hpp ho hno hB0 hnew hPl hB hPk hps hm
                    go_wp2_with (at_builtin; refine wpList_append1 rfl _ _ _ rfl Tryz.underlying43 infoT4s rfl (by omega) encS_len encS_one rfl (HF.out.1.alloc _) R.heap.size 1 (g, m, cap) rfl (Blk.new _ _ _) (by unfold maxLen; omega) (by omega) (by simp; omega) ?_; intro g9 cap9 w9 hown9 hg9 hB9 hat9 hgb9 hlt9)
                    refine ⟨⟨i + 1, by omega, by push_cast; rfl, ?_, ?_⟩, by simp [intOf]; omega⟩
                    · rw [HF.out.2.2.2.2.2.1]
                      have hso := Pcs.snoc (k := 9) (enc := encT) (e := 58) (te := 28) (ss := ss) (ps := ps) (w := R.alloc (.cells #[.slice g m cap] 28)) (w' := w9) (base := V0.heap.size) (p := Pk) (A := g) (c := cap) (v' := .slice (some ⟨g9, 0, none⟩) (no + 1) cap9)
                        (by decide) (by rw [← HF.out.2.2.2.1]; exact HF.out.1.alloc _) (fun i' p' hi' => by obtain ⟨A', c', h1, h2⟩ := HF.out.2.1 i' p' hi'; exact ⟨A', c', h1, h2.alloc _⟩)
                        (by rw [HF.out.2.2.2.2.2.2]; exact (HF.out.2.2.1.base_le hVz).alloc _) hg9 (by rw [← HF.out.2.2.2.1, HF.out.2.2.2.2.2.2]; exact hown9)
                      exact hso
                    · exact (HF.out.2.2.2.2.1.alloc hzz _).trans hB9
              · rw [if_neg hxi, List.append_nil] at hrs
                have t0 : ((x : Int) != (i : Int)) = true := by rw [bne_iff_ne]; omega
                have HE := hide (And.intro hp (And.intro hB hrs))
                clear hp hB hrV hrs hx nx hxi
                go_wp2
                go_roundw
                case rel => exact ⟨i + 1, by omega, by go_num, by rw [HE.out.2.2]; exact HE.out.1, HE.out.2.1⟩
                case measure => (simp [intOf]; try omega)
            · obtain rfl : i = k := by omega
              have i2 : ¬ (i : Int) < (i : Int) := by omega
              have hpe : partsT C S i = (((List.range i).filter fun a => decide (numR xs a = a)).map fun h => pickL C ((List.range i).filter fun j => decide (numR xs j = h))) := by
                unfold partsT
                rw [HV0.out.2.2.1, List.map_map]; rfl
              rw [← hpe] at hp
              have hcl := HC.out.2.1
              have HE := hide (And.intro hp (And.intro (H1.out.1.trans ((HV0.out.2.1.trans (hB.mono HV0.out.2.1.size)).mono H1.out.1.size)) (Nat.le_trans H1.out.1.size HV0.out.2.1.size)))
              clear hp hB hpe
              go_wp2
              go_ret
              exact ⟨_, rfl, HE.out.1.base_le HE.out.2.2, HE.out.2.1⟩
end Go.Proofs.YtelfnmohpjkilaaGreatDoor
