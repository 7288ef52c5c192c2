/- ref04.Moved. -/
import Derived.Deep.QuietTactic
import Derived.BigQuiet
import Derived.Deep.RegionHeld3
import Derived.Test.YtelfnmohpjkilaaGreatDoorCB3
import Derived.Test.YtelfnmohpjkilaaGreatDoorCB4
import Derived.Test.YtelfnmohpjkilaaGreatDoorCClone
namespace Go.Proofs.YtelfnmohpjkilaaGreatDoor
open Go.RowKit
def movP (v p : Pt) : Pt := (wrap64 (p.1 + v.1), wrap64 (p.2.1 + v.2.1), wrap64 (p.2.2 + v.2.2))
def movN (v : Pt) (t : Tri) : Nat → Tri
  | 0 => t
  | 1 => (movP v t.1, t.2.1, t.2.2)
  | 2 => (movP v t.1, movP v t.2.1, t.2.2)
  | _ => (movP v t.1, movP v t.2.1, movP v t.2.2)
def movT (v : Pt) (t : Tri) : Tri := movN v t 3
def nineT (t : Tri) : Array Value := #[.int .i64 t.1.1, .int .i64 t.1.2.1, .int .i64 t.1.2.2, .int .i64 t.2.1.1, .int .i64 t.2.1.2.1, .int .i64 t.2.1.2.2, .int .i64 t.2.2.1, .int .i64 t.2.2.2.1, .int .i64 t.2.2.2.2]
theorem nineT_eq (t : Tri) : nineT t = (encT t).toArray := rfl
set_option maxRecDepth 100000 in
set_option maxHeartbeats 4000000 in
theorem moved_any (A : Option Addr) (c : Nat) (ts : List Tri) (v : Pt) (w : World) (hs : Sl encT 9 w w.heap.size A ts) (hl : ts.length ≤ 4294967296) :
    Calls Tryz.prog 25 #[.slice A ts.length c, vP v] w fun e w' => ∃ u, e = .returned u ∧ Own encT 9 58 w' w.heap.size u ts.length (ts.map (movT v)) ∧ Below w.heap.size w w' := by
  go_enter Tryz.func25, Tryz.ntmps25
  go_wp2
  go_loopw [5, 6] (fun u i wr => ∃ k : Nat, k ≤ ts.length ∧ i = .int .i64 k ∧ Own encT 9 58 wr (w.heap.size + 1) u k ((ts.take k).map (movT v)) ∧ Blk wr w.heap.size 41 #[.int .i64 v.1, .int .i64 v.2.1, .int .i64 v.2.2] ∧ Below w.heap.size w wr) (fun _ i _ => ts.length - (intOf i).toNat)
  case atStart => exact ⟨0, Nat.zero_le _, rfl, Own.nil, Blk.new _ _ _, (Below.refl _ w).alloc (Nat.le_refl _) _⟩
  case round =>
    obtain ⟨k, hk, rfl, hown, hbv, hB⟩ := hrel
    obtain ⟨A1, c1, rfl⟩ := hown.form
    have hsz := hbv.lt
    by_cases hlt : k < ts.length
    · obtain ⟨t, ht⟩ : ∃ t, ts[k]? = some t := ⟨_, List.getElem?_eq_getElem hlt⟩
      obtain ⟨b, o, hA, hb, g0, g1, g2, g3, g4, g5, g6, g7, g8⟩ := (hs.below hB).tri ht
      subst hA
      have H := hide (And.intro hs (And.intro hown (And.intro hbv (And.intro hB ht))))
      clear hs hown hbv hB ht
      go_wp2
      clear g0 g1 g2 g3 g4 g5 g6 g7 g8
      obtain ⟨V, hV⟩ : ∃ V, V = wr := ⟨_, rfl⟩
      obtain ⟨X, hX⟩ : ∃ X, X = V.alloc (.cells #[.int .i64 t.1.1, .int .i64 t.1.2.1, .int .i64 t.1.2.2, .int .i64 t.2.1.1, .int .i64 t.2.1.2.1, .int .i64 t.2.1.2.2, .int .i64 t.2.2.1, .int .i64 t.2.2.2.1, .int .i64 t.2.2.2.2] 58) := ⟨_, rfl⟩
      rw [← hV] at H hsz ⊢
      rw [← hX]
      have hbX : Blk X V.heap.size 58 (nineT t) := by rw [hX]; exact Blk.new _ _ _
      have hBX : Below V.heap.size V X := by rw [hX]; exact (Below.refl _ V).alloc (Nat.le_refl _) _
      have hXv := H.out.2.2.1.below hBX H.out.2.2.1.lt
      have HX := hide (And.intro hX (And.intro hbX (And.intro hBX hXv)))
      clear hX hV hbX hBX hXv
      go_loopw [8] (fun i wr => ∃ j : Nat, j ≤ 3 ∧ i = .int .i64 j ∧ Blk wr V.heap.size 58 (nineT (movN v t j)) ∧ Below V.heap.size V wr) (fun i _ => 3 - (intOf i).toNat)
      case atStart => exact ⟨0, by omega, rfl, HX.out.2.1, HX.out.2.2.1⟩
      case round =>
        obtain ⟨j, hj, rfl, hbt, hBt⟩ := hrel
        have hbv := H.out.2.2.1.below hBt H.out.2.2.1.lt
        have v0 := hbv.cell 0
        have v1 := hbv.cell 1
        have v2 := hbv.cell 2
        simp only [List.getElem?_toArray, List.getElem?_cons_zero, List.getElem?_cons_succ] at v0 v1 v2
        have hne : V.heap.size ≠ w.heap.size := by omega
        have hne2 : w.heap.size ≠ V.heap.size := by omega
        have hc : j = 0 ∨ j = 1 ∨ j = 2 ∨ j = 3 := by omega
        rcases hc with rfl | rfl | rfl | rfl
        · have hw0 : IntKind.i64.wrap 0 = 0 := by decide
          have r0 : wr.cell? ⟨V.heap.size, 0, none⟩ = some (.int .i64 t.1.1) := hbt.cell 0
          have r1 : wr.cell? ⟨V.heap.size, 1, none⟩ = some (.int .i64 t.1.2.1) := hbt.cell 1
          have r2 : wr.cell? ⟨V.heap.size, 2, none⟩ = some (.int .i64 t.1.2.2) := hbt.cell 2
          have r3 : wr.cell? ⟨V.heap.size, 3, none⟩ = some (.int .i64 t.2.1.1) := hbt.cell 3
          have r4 : wr.cell? ⟨V.heap.size, 4, none⟩ = some (.int .i64 t.2.1.2.1) := hbt.cell 4
          have r5 : wr.cell? ⟨V.heap.size, 5, none⟩ = some (.int .i64 t.2.1.2.2) := hbt.cell 5
          have r6 : wr.cell? ⟨V.heap.size, 6, none⟩ = some (.int .i64 t.2.2.1) := hbt.cell 6
          have r7 : wr.cell? ⟨V.heap.size, 7, none⟩ = some (.int .i64 t.2.2.2.1) := hbt.cell 7
          have r8 : wr.cell? ⟨V.heap.size, 8, none⟩ = some (.int .i64 t.2.2.2.2) := hbt.cell 8
          have f0 := hbt.frozen 0
          have f1 := hbt.frozen 1
          have f2 := hbt.frozen 2
          have HT := hide (And.intro hbt hBt)
          clear hbt hBt hbv
          go_wp2_with fail
          have hS : wr.drew.cell? ⟨w.heap.size, 0, none⟩ = some (.int .i64 v.1) ∧ wr.drew.cell? ⟨w.heap.size, 1, none⟩ = some (.int .i64 v.2.1) ∧ wr.drew.cell? ⟨w.heap.size, 2, none⟩ = some (.int .i64 v.2.2) ∧ wr.drew.cell? ⟨V.heap.size, 0, none⟩ = some (.int .i64 t.1.1) ∧ wr.drew.cell? ⟨V.heap.size, 1, none⟩ = some (.int .i64 t.1.2.1) ∧ wr.drew.cell? ⟨V.heap.size, 2, none⟩ = some (.int .i64 t.1.2.2) := ⟨v0, v1, v2, r0, r1, r2⟩
          refine wp_region_mix (fun w' => w'.cell? ⟨w.heap.size, 0, none⟩ = some (.int .i64 v.1) ∧ w'.cell? ⟨w.heap.size, 1, none⟩ = some (.int .i64 v.2.1) ∧ w'.cell? ⟨w.heap.size, 2, none⟩ = some (.int .i64 v.2.2) ∧ w'.cell? ⟨V.heap.size, 0, none⟩ = some (.int .i64 t.1.1) ∧ w'.cell? ⟨V.heap.size, 1, none⟩ = some (.int .i64 t.1.2.1) ∧ w'.cell? ⟨V.heap.size, 2, none⟩ = some (.int .i64 t.1.2.2)) [0, 1, 2, 3, 4, 5, 6, 7, 8, 9, 10, 11, 12, 13, 14, 15, 16, 17, 18, 19, 20, 21, 22, 23] [0, 1, 2, 3, 4, 5, 6, 7, 8, 9, 10, 11, 12, 13, 14, 15, 16, 17, 18, 19, 20, 21, 22, 23, 24] mixed_ok (by kernel_rfl) ?_
          refine wpMix_q (v := .int .i64 0) rfl rfl (fun _ _ _ h => h) hS ⟨rfl, fun W' h' => by simp [go_sem]⟩ ?_
          refine wpMix_q (v := .int .i64 0) rfl rfl (fun _ _ _ h => h) hS ⟨rfl, fun W' h' => by simp [go_sem]⟩ ?_
          refine wpMix_q (v := .pointer (some ⟨V.heap.size, 0, none⟩)) rfl rfl (fun _ _ _ h => h) hS ⟨rfl, fun W' h' => by simp [go_sem]⟩ ?_
          refine wpMix_q (v := .pointer (some ⟨V.heap.size, 0, none⟩)) rfl rfl (fun _ _ _ h => h) hS ⟨rfl, fun W' h' => by simp [go_sem]⟩ ?_
          refine wpMix_q (v := .int .i64 t.1.1) rfl rfl (fun _ _ _ h => h) hS ⟨rfl, fun W' h' => by simp [go_sem, h'.2.2.2.1]⟩ ?_
          refine wpMix_q (v := .pointer (some ⟨w.heap.size, 0, none⟩)) rfl rfl (fun _ _ _ h => h) hS ⟨rfl, fun W' h' => by simp [go_sem]⟩ ?_
          refine wpMix_q (v := .int .i64 v.1) rfl rfl (fun _ _ _ h => h) hS ⟨rfl, fun W' h' => by simp [go_sem, h'.1]⟩ ?_
          refine wpMix_q (v := .int .i64 (IntKind.i64.wrap (t.1.1 + v.1))) rfl rfl (fun _ _ _ h => h) hS ⟨rfl, fun W' h' => by simp [go_sem]⟩ ?_
          refine wpMix_q (v := .int .i64 0) rfl rfl (fun _ _ _ h => h) hS ⟨rfl, fun W' h' => by simp [go_sem]⟩ ?_
          refine wpMix_q (v := .pointer (some ⟨V.heap.size, 0, none⟩)) rfl rfl (fun _ _ _ h => h) hS ⟨rfl, fun W' h' => by simp [go_sem]⟩ ?_
          refine wpMix_q (v := .pointer (some ⟨V.heap.size, 1, none⟩)) rfl rfl (fun _ _ _ h => h) hS ⟨rfl, fun W' h' => by simp [go_sem]⟩ ?_
          refine wpMix_q (v := .int .i64 t.1.2.1) rfl rfl (fun _ _ _ h => h) hS ⟨rfl, fun W' h' => by simp [go_sem, h'.2.2.2.2.1]⟩ ?_
          refine wpMix_q (v := .pointer (some ⟨w.heap.size, 1, none⟩)) rfl rfl (fun _ _ _ h => h) hS ⟨rfl, fun W' h' => by simp [go_sem]⟩ ?_
          refine wpMix_q (v := .int .i64 v.2.1) rfl rfl (fun _ _ _ h => h) hS ⟨rfl, fun W' h' => by simp [go_sem, h'.2.1]⟩ ?_
          refine wpMix_q (v := .int .i64 (IntKind.i64.wrap (t.1.2.1 + v.2.1))) rfl rfl (fun _ _ _ h => h) hS ⟨rfl, fun W' h' => by simp [go_sem]⟩ ?_
          refine wpMix_q (v := .int .i64 0) rfl rfl (fun _ _ _ h => h) hS ⟨rfl, fun W' h' => by simp [go_sem]⟩ ?_
          refine wpMix_q (v := .pointer (some ⟨V.heap.size, 0, none⟩)) rfl rfl (fun _ _ _ h => h) hS ⟨rfl, fun W' h' => by simp [go_sem]⟩ ?_
          refine wpMix_q (v := .pointer (some ⟨V.heap.size, 2, none⟩)) rfl rfl (fun _ _ _ h => h) hS ⟨rfl, fun W' h' => by simp [go_sem]⟩ ?_
          refine wpMix_q (v := .int .i64 t.1.2.2) rfl rfl (fun _ _ _ h => h) hS ⟨rfl, fun W' h' => by simp [go_sem, h'.2.2.2.2.2]⟩ ?_
          refine wpMix_q (v := .pointer (some ⟨w.heap.size, 2, none⟩)) rfl rfl (fun _ _ _ h => h) hS ⟨rfl, fun W' h' => by simp [go_sem]⟩ ?_
          refine wpMix_q (v := .int .i64 v.2.2) rfl rfl (fun _ _ _ h => h) hS ⟨rfl, fun W' h' => by simp [go_sem, h'.2.2.1]⟩ ?_
          refine wpMix_q (v := .int .i64 (IntKind.i64.wrap (t.1.2.2 + v.2.2))) rfl rfl (fun _ _ _ h => h) hS ⟨rfl, fun W' h' => by simp [go_sem]⟩ ?_
          refine wpMix_q (v := .agg #[.int .i64 (IntKind.i64.wrap (t.1.1 + v.1)), .int .i64 (IntKind.i64.wrap (t.1.2.1 + v.2.1)), .int .i64 (IntKind.i64.wrap (t.1.2.2 + v.2.2))]) rfl rfl (fun _ _ _ h => h) hS ⟨rfl, fun W' h' => by simp [go_sem]⟩ ?_
          refine wpMix_q (v := .pointer (some ⟨V.heap.size, 0, none⟩)) rfl rfl (fun _ _ _ h => h) hS ⟨rfl, fun W' h' => by simp [go_sem]⟩ ?_
          refine wpMix_tail _ [_] (by kernel_rfl) rfl ?_
          simp only [List.getElem_toArray, List.getElem_cons_succ, List.getElem_cons_zero]
          go_wp2
          go_roundw
          case rel =>
            have h0 := (((HT.out.1.set_ 0 (.int .i64 (wrap64 (t.1.1 + v.1)))).set_ 1 (.int .i64 (wrap64 (t.1.2.1 + v.2.1)))).set_ 2 (.int .i64 (wrap64 (t.1.2.2 + v.2.2)))).drew
            unfold nineT at h0
            simp only [movN, List.setIfInBounds_toArray, List.set_cons_succ, List.set_cons_zero] at h0
            exact ⟨1, by omega, rfl, h0, (((HT.out.2.setCell (by simp) _).setCell (by simp) _).setCell (by simp) _).drew⟩
          case measure => simp [intOf]
        · have hw0 : IntKind.i64.wrap 0 = 0 := by decide
          have r0 : wr.cell? ⟨V.heap.size, 0, none⟩ = some (.int .i64 (wrap64 (t.1.1 + v.1))) := hbt.cell 0
          have r1 : wr.cell? ⟨V.heap.size, 1, none⟩ = some (.int .i64 (wrap64 (t.1.2.1 + v.2.1))) := hbt.cell 1
          have r2 : wr.cell? ⟨V.heap.size, 2, none⟩ = some (.int .i64 (wrap64 (t.1.2.2 + v.2.2))) := hbt.cell 2
          have r3 : wr.cell? ⟨V.heap.size, 3, none⟩ = some (.int .i64 t.2.1.1) := hbt.cell 3
          have r4 : wr.cell? ⟨V.heap.size, 4, none⟩ = some (.int .i64 t.2.1.2.1) := hbt.cell 4
          have r5 : wr.cell? ⟨V.heap.size, 5, none⟩ = some (.int .i64 t.2.1.2.2) := hbt.cell 5
          have r6 : wr.cell? ⟨V.heap.size, 6, none⟩ = some (.int .i64 t.2.2.1) := hbt.cell 6
          have r7 : wr.cell? ⟨V.heap.size, 7, none⟩ = some (.int .i64 t.2.2.2.1) := hbt.cell 7
          have r8 : wr.cell? ⟨V.heap.size, 8, none⟩ = some (.int .i64 t.2.2.2.2) := hbt.cell 8
          have f3 := hbt.frozen 3
          have f4 := hbt.frozen 4
          have f5 := hbt.frozen 5
          have HT := hide (And.intro hbt hBt)
          clear hbt hBt hbv
          go_wp2_with fail
          have hS : wr.drew.cell? ⟨w.heap.size, 0, none⟩ = some (.int .i64 v.1) ∧ wr.drew.cell? ⟨w.heap.size, 1, none⟩ = some (.int .i64 v.2.1) ∧ wr.drew.cell? ⟨w.heap.size, 2, none⟩ = some (.int .i64 v.2.2) ∧ wr.drew.cell? ⟨V.heap.size, 3, none⟩ = some (.int .i64 t.2.1.1) ∧ wr.drew.cell? ⟨V.heap.size, 4, none⟩ = some (.int .i64 t.2.1.2.1) ∧ wr.drew.cell? ⟨V.heap.size, 5, none⟩ = some (.int .i64 t.2.1.2.2) := ⟨v0, v1, v2, r3, r4, r5⟩
          refine wp_region_mix (fun w' => w'.cell? ⟨w.heap.size, 0, none⟩ = some (.int .i64 v.1) ∧ w'.cell? ⟨w.heap.size, 1, none⟩ = some (.int .i64 v.2.1) ∧ w'.cell? ⟨w.heap.size, 2, none⟩ = some (.int .i64 v.2.2) ∧ w'.cell? ⟨V.heap.size, 3, none⟩ = some (.int .i64 t.2.1.1) ∧ w'.cell? ⟨V.heap.size, 4, none⟩ = some (.int .i64 t.2.1.2.1) ∧ w'.cell? ⟨V.heap.size, 5, none⟩ = some (.int .i64 t.2.1.2.2)) [0, 1, 2, 3, 4, 5, 6, 7, 8, 9, 10, 11, 12, 13, 14, 15, 16, 17, 18, 19, 20, 21, 22, 23] [0, 1, 2, 3, 4, 5, 6, 7, 8, 9, 10, 11, 12, 13, 14, 15, 16, 17, 18, 19, 20, 21, 22, 23, 24] mixed_ok (by kernel_rfl) ?_
          refine wpMix_q (v := .int .i64 1) rfl rfl (fun _ _ _ h => h) hS ⟨rfl, fun W' h' => by simp [go_sem]⟩ ?_
          refine wpMix_q (v := .int .i64 1) rfl rfl (fun _ _ _ h => h) hS ⟨rfl, fun W' h' => by simp [go_sem]⟩ ?_
          refine wpMix_q (v := .pointer (some ⟨V.heap.size, 3, none⟩)) rfl rfl (fun _ _ _ h => h) hS ⟨rfl, fun W' h' => by simp [go_sem]⟩ ?_
          refine wpMix_q (v := .pointer (some ⟨V.heap.size, 3, none⟩)) rfl rfl (fun _ _ _ h => h) hS ⟨rfl, fun W' h' => by simp [go_sem]⟩ ?_
          refine wpMix_q (v := .int .i64 t.2.1.1) rfl rfl (fun _ _ _ h => h) hS ⟨rfl, fun W' h' => by simp [go_sem, h'.2.2.2.1]⟩ ?_
          refine wpMix_q (v := .pointer (some ⟨w.heap.size, 0, none⟩)) rfl rfl (fun _ _ _ h => h) hS ⟨rfl, fun W' h' => by simp [go_sem]⟩ ?_
          refine wpMix_q (v := .int .i64 v.1) rfl rfl (fun _ _ _ h => h) hS ⟨rfl, fun W' h' => by simp [go_sem, h'.1]⟩ ?_
          refine wpMix_q (v := .int .i64 (IntKind.i64.wrap (t.2.1.1 + v.1))) rfl rfl (fun _ _ _ h => h) hS ⟨rfl, fun W' h' => by simp [go_sem]⟩ ?_
          refine wpMix_q (v := .int .i64 1) rfl rfl (fun _ _ _ h => h) hS ⟨rfl, fun W' h' => by simp [go_sem]⟩ ?_
          refine wpMix_q (v := .pointer (some ⟨V.heap.size, 3, none⟩)) rfl rfl (fun _ _ _ h => h) hS ⟨rfl, fun W' h' => by simp [go_sem]⟩ ?_
          refine wpMix_q (v := .pointer (some ⟨V.heap.size, 4, none⟩)) rfl rfl (fun _ _ _ h => h) hS ⟨rfl, fun W' h' => by simp [go_sem]⟩ ?_
          refine wpMix_q (v := .int .i64 t.2.1.2.1) rfl rfl (fun _ _ _ h => h) hS ⟨rfl, fun W' h' => by simp [go_sem, h'.2.2.2.2.1]⟩ ?_
          refine wpMix_q (v := .pointer (some ⟨w.heap.size, 1, none⟩)) rfl rfl (fun _ _ _ h => h) hS ⟨rfl, fun W' h' => by simp [go_sem]⟩ ?_
          refine wpMix_q (v := .int .i64 v.2.1) rfl rfl (fun _ _ _ h => h) hS ⟨rfl, fun W' h' => by simp [go_sem, h'.2.1]⟩ ?_
          refine wpMix_q (v := .int .i64 (IntKind.i64.wrap (t.2.1.2.1 + v.2.1))) rfl rfl (fun _ _ _ h => h) hS ⟨rfl, fun W' h' => by simp [go_sem]⟩ ?_
          refine wpMix_q (v := .int .i64 1) rfl rfl (fun _ _ _ h => h) hS ⟨rfl, fun W' h' => by simp [go_sem]⟩ ?_
          refine wpMix_q (v := .pointer (some ⟨V.heap.size, 3, none⟩)) rfl rfl (fun _ _ _ h => h) hS ⟨rfl, fun W' h' => by simp [go_sem]⟩ ?_
          refine wpMix_q (v := .pointer (some ⟨V.heap.size, 5, none⟩)) rfl rfl (fun _ _ _ h => h) hS ⟨rfl, fun W' h' => by simp [go_sem]⟩ ?_
          refine wpMix_q (v := .int .i64 t.2.1.2.2) rfl rfl (fun _ _ _ h => h) hS ⟨rfl, fun W' h' => by simp [go_sem, h'.2.2.2.2.2]⟩ ?_
          refine wpMix_q (v := .pointer (some ⟨w.heap.size, 2, none⟩)) rfl rfl (fun _ _ _ h => h) hS ⟨rfl, fun W' h' => by simp [go_sem]⟩ ?_
          refine wpMix_q (v := .int .i64 v.2.2) rfl rfl (fun _ _ _ h => h) hS ⟨rfl, fun W' h' => by simp [go_sem, h'.2.2.1]⟩ ?_
          refine wpMix_q (v := .int .i64 (IntKind.i64.wrap (t.2.1.2.2 + v.2.2))) rfl rfl (fun _ _ _ h => h) hS ⟨rfl, fun W' h' => by simp [go_sem]⟩ ?_
          refine wpMix_q (v := .agg #[.int .i64 (IntKind.i64.wrap (t.2.1.1 + v.1)), .int .i64 (IntKind.i64.wrap (t.2.1.2.1 + v.2.1)), .int .i64 (IntKind.i64.wrap (t.2.1.2.2 + v.2.2))]) rfl rfl (fun _ _ _ h => h) hS ⟨rfl, fun W' h' => by simp [go_sem]⟩ ?_
          refine wpMix_q (v := .pointer (some ⟨V.heap.size, 3, none⟩)) rfl rfl (fun _ _ _ h => h) hS ⟨rfl, fun W' h' => by simp [go_sem]⟩ ?_
          refine wpMix_tail _ [_] (by kernel_rfl) rfl ?_
          simp only [List.getElem_toArray, List.getElem_cons_succ, List.getElem_cons_zero]
          go_wp2
          go_roundw
          case rel =>
            have h0 := (((HT.out.1.set_ 3 (.int .i64 (wrap64 (t.2.1.1 + v.1)))).set_ 4 (.int .i64 (wrap64 (t.2.1.2.1 + v.2.1)))).set_ 5 (.int .i64 (wrap64 (t.2.1.2.2 + v.2.2)))).drew
            unfold nineT at h0
            simp only [movN, List.setIfInBounds_toArray, List.set_cons_succ, List.set_cons_zero] at h0
            exact ⟨2, by omega, rfl, h0, (((HT.out.2.setCell (by simp) _).setCell (by simp) _).setCell (by simp) _).drew⟩
          case measure => simp [intOf]
        · have hw0 : IntKind.i64.wrap 0 = 0 := by decide
          have r0 : wr.cell? ⟨V.heap.size, 0, none⟩ = some (.int .i64 (wrap64 (t.1.1 + v.1))) := hbt.cell 0
          have r1 : wr.cell? ⟨V.heap.size, 1, none⟩ = some (.int .i64 (wrap64 (t.1.2.1 + v.2.1))) := hbt.cell 1
          have r2 : wr.cell? ⟨V.heap.size, 2, none⟩ = some (.int .i64 (wrap64 (t.1.2.2 + v.2.2))) := hbt.cell 2
          have r3 : wr.cell? ⟨V.heap.size, 3, none⟩ = some (.int .i64 (wrap64 (t.2.1.1 + v.1))) := hbt.cell 3
          have r4 : wr.cell? ⟨V.heap.size, 4, none⟩ = some (.int .i64 (wrap64 (t.2.1.2.1 + v.2.1))) := hbt.cell 4
          have r5 : wr.cell? ⟨V.heap.size, 5, none⟩ = some (.int .i64 (wrap64 (t.2.1.2.2 + v.2.2))) := hbt.cell 5
          have r6 : wr.cell? ⟨V.heap.size, 6, none⟩ = some (.int .i64 t.2.2.1) := hbt.cell 6
          have r7 : wr.cell? ⟨V.heap.size, 7, none⟩ = some (.int .i64 t.2.2.2.1) := hbt.cell 7
          have r8 : wr.cell? ⟨V.heap.size, 8, none⟩ = some (.int .i64 t.2.2.2.2) := hbt.cell 8
          have f6 := hbt.frozen 6
          have f7 := hbt.frozen 7
          have f8 := hbt.frozen 8
          have HT := hide (And.intro hbt hBt)
          clear hbt hBt hbv
          go_wp2_with fail
          have hS : wr.drew.cell? ⟨w.heap.size, 0, none⟩ = some (.int .i64 v.1) ∧ wr.drew.cell? ⟨w.heap.size, 1, none⟩ = some (.int .i64 v.2.1) ∧ wr.drew.cell? ⟨w.heap.size, 2, none⟩ = some (.int .i64 v.2.2) ∧ wr.drew.cell? ⟨V.heap.size, 6, none⟩ = some (.int .i64 t.2.2.1) ∧ wr.drew.cell? ⟨V.heap.size, 7, none⟩ = some (.int .i64 t.2.2.2.1) ∧ wr.drew.cell? ⟨V.heap.size, 8, none⟩ = some (.int .i64 t.2.2.2.2) := ⟨v0, v1, v2, r6, r7, r8⟩
          refine wp_region_mix (fun w' => w'.cell? ⟨w.heap.size, 0, none⟩ = some (.int .i64 v.1) ∧ w'.cell? ⟨w.heap.size, 1, none⟩ = some (.int .i64 v.2.1) ∧ w'.cell? ⟨w.heap.size, 2, none⟩ = some (.int .i64 v.2.2) ∧ w'.cell? ⟨V.heap.size, 6, none⟩ = some (.int .i64 t.2.2.1) ∧ w'.cell? ⟨V.heap.size, 7, none⟩ = some (.int .i64 t.2.2.2.1) ∧ w'.cell? ⟨V.heap.size, 8, none⟩ = some (.int .i64 t.2.2.2.2)) [0, 1, 2, 3, 4, 5, 6, 7, 8, 9, 10, 11, 12, 13, 14, 15, 16, 17, 18, 19, 20, 21, 22, 23] [0, 1, 2, 3, 4, 5, 6, 7, 8, 9, 10, 11, 12, 13, 14, 15, 16, 17, 18, 19, 20, 21, 22, 23, 24] mixed_ok (by kernel_rfl) ?_
          refine wpMix_q (v := .int .i64 2) rfl rfl (fun _ _ _ h => h) hS ⟨rfl, fun W' h' => by simp [go_sem]⟩ ?_
          refine wpMix_q (v := .int .i64 2) rfl rfl (fun _ _ _ h => h) hS ⟨rfl, fun W' h' => by simp [go_sem]⟩ ?_
          refine wpMix_q (v := .pointer (some ⟨V.heap.size, 6, none⟩)) rfl rfl (fun _ _ _ h => h) hS ⟨rfl, fun W' h' => by simp [go_sem]⟩ ?_
          refine wpMix_q (v := .pointer (some ⟨V.heap.size, 6, none⟩)) rfl rfl (fun _ _ _ h => h) hS ⟨rfl, fun W' h' => by simp [go_sem]⟩ ?_
          refine wpMix_q (v := .int .i64 t.2.2.1) rfl rfl (fun _ _ _ h => h) hS ⟨rfl, fun W' h' => by simp [go_sem, h'.2.2.2.1]⟩ ?_
          refine wpMix_q (v := .pointer (some ⟨w.heap.size, 0, none⟩)) rfl rfl (fun _ _ _ h => h) hS ⟨rfl, fun W' h' => by simp [go_sem]⟩ ?_
          refine wpMix_q (v := .int .i64 v.1) rfl rfl (fun _ _ _ h => h) hS ⟨rfl, fun W' h' => by simp [go_sem, h'.1]⟩ ?_
          refine wpMix_q (v := .int .i64 (IntKind.i64.wrap (t.2.2.1 + v.1))) rfl rfl (fun _ _ _ h => h) hS ⟨rfl, fun W' h' => by simp [go_sem]⟩ ?_
          refine wpMix_q (v := .int .i64 2) rfl rfl (fun _ _ _ h => h) hS ⟨rfl, fun W' h' => by simp [go_sem]⟩ ?_
          refine wpMix_q (v := .pointer (some ⟨V.heap.size, 6, none⟩)) rfl rfl (fun _ _ _ h => h) hS ⟨rfl, fun W' h' => by simp [go_sem]⟩ ?_
          refine wpMix_q (v := .pointer (some ⟨V.heap.size, 7, none⟩)) rfl rfl (fun _ _ _ h => h) hS ⟨rfl, fun W' h' => by simp [go_sem]⟩ ?_
          refine wpMix_q (v := .int .i64 t.2.2.2.1) rfl rfl (fun _ _ _ h => h) hS ⟨rfl, fun W' h' => by simp [go_sem, h'.2.2.2.2.1]⟩ ?_
          refine wpMix_q (v := .pointer (some ⟨w.heap.size, 1, none⟩)) rfl rfl (fun _ _ _ h => h) hS ⟨rfl, fun W' h' => by simp [go_sem]⟩ ?_
          refine wpMix_q (v := .int .i64 v.2.1) rfl rfl (fun _ _ _ h => h) hS ⟨rfl, fun W' h' => by simp [go_sem, h'.2.1]⟩ ?_
          refine wpMix_q (v := .int .i64 (IntKind.i64.wrap (t.2.2.2.1 + v.2.1))) rfl rfl (fun _ _ _ h => h) hS ⟨rfl, fun W' h' => by simp [go_sem]⟩ ?_
          refine wpMix_q (v := .int .i64 2) rfl rfl (fun _ _ _ h => h) hS ⟨rfl, fun W' h' => by simp [go_sem]⟩ ?_
          refine wpMix_q (v := .pointer (some ⟨V.heap.size, 6, none⟩)) rfl rfl (fun _ _ _ h => h) hS ⟨rfl, fun W' h' => by simp [go_sem]⟩ ?_
          refine wpMix_q (v := .pointer (some ⟨V.heap.size, 8, none⟩)) rfl rfl (fun _ _ _ h => h) hS ⟨rfl, fun W' h' => by simp [go_sem]⟩ ?_
          refine wpMix_q (v := .int .i64 t.2.2.2.2) rfl rfl (fun _ _ _ h => h) hS ⟨rfl, fun W' h' => by simp [go_sem, h'.2.2.2.2.2]⟩ ?_
          refine wpMix_q (v := .pointer (some ⟨w.heap.size, 2, none⟩)) rfl rfl (fun _ _ _ h => h) hS ⟨rfl, fun W' h' => by simp [go_sem]⟩ ?_
          refine wpMix_q (v := .int .i64 v.2.2) rfl rfl (fun _ _ _ h => h) hS ⟨rfl, fun W' h' => by simp [go_sem, h'.2.2.1]⟩ ?_
          refine wpMix_q (v := .int .i64 (IntKind.i64.wrap (t.2.2.2.2 + v.2.2))) rfl rfl (fun _ _ _ h => h) hS ⟨rfl, fun W' h' => by simp [go_sem]⟩ ?_
          refine wpMix_q (v := .agg #[.int .i64 (IntKind.i64.wrap (t.2.2.1 + v.1)), .int .i64 (IntKind.i64.wrap (t.2.2.2.1 + v.2.1)), .int .i64 (IntKind.i64.wrap (t.2.2.2.2 + v.2.2))]) rfl rfl (fun _ _ _ h => h) hS ⟨rfl, fun W' h' => by simp [go_sem]⟩ ?_
          refine wpMix_q (v := .pointer (some ⟨V.heap.size, 6, none⟩)) rfl rfl (fun _ _ _ h => h) hS ⟨rfl, fun W' h' => by simp [go_sem]⟩ ?_
          refine wpMix_tail _ [_] (by kernel_rfl) rfl ?_
          simp only [List.getElem_toArray, List.getElem_cons_succ, List.getElem_cons_zero]
          go_wp2
          go_roundw
          case rel =>
            have h0 := (((HT.out.1.set_ 6 (.int .i64 (wrap64 (t.2.2.1 + v.1)))).set_ 7 (.int .i64 (wrap64 (t.2.2.2.1 + v.2.1)))).set_ 8 (.int .i64 (wrap64 (t.2.2.2.2 + v.2.2)))).drew
            unfold nineT at h0
            simp only [movN, List.setIfInBounds_toArray, List.set_cons_succ, List.set_cons_zero] at h0
            exact ⟨3, by omega, rfl, h0, (((HT.out.2.setCell (by simp) _).setCell (by simp) _).setCell (by simp) _).drew⟩
          case measure => simp [intOf]
        · have b9 := hbt
          rw [nineT_eq] at b9
          have HT := hide (And.intro b9 hBt)
          have q0 := hbt.cell 0
          have q1 := hbt.cell 1
          have q2 := hbt.cell 2
          have q3 := hbt.cell 3
          have q4 := hbt.cell 4
          have q5 := hbt.cell 5
          have q6 := hbt.cell 6
          have q7 := hbt.cell 7
          have q8 := hbt.cell 8
          unfold nineT at q0 q1 q2 q3 q4 q5 q6 q7 q8
          simp only [List.getElem?_toArray, List.getElem?_cons_zero, List.getElem?_cons_succ] at q0 q1 q2 q3 q4 q5 q6 q7 q8
          obtain ⟨Y, hY⟩ : ∃ Y, Y = wr.alloc (.cells (encT (movT v t)).toArray 58) := ⟨_, rfl⟩
          have hYo : Own encT 9 58 (wr.alloc (.cells (encT (movT v t)).toArray 58)) (w.heap.size + 1) (.slice A1 k c1) k ((ts.take k).map (movT v)) := (H.out.2.1.below hBt (Nat.le_refl _)).alloc _
          have hszw : V.heap.size ≤ wr.heap.size := hBt.size
          clear hbt hBt hbv v0 v1 v2 hY
          go_wp2_with (at_builtin; refine wpList_append1 rfl _ _ _ rfl Tryz.underlying28 infoT rfl (by omega) encT_len encT_one rfl hYo wr.heap.size 1 (movT v t) rfl (Blk.new _ _ _) (by unfold maxLen; omega) (by omega) (by simp; omega) ?_; intro g cap w5 hown5 hg5 hB5 hat5 hgb5 hlt5)
          go_roundw
          case rel =>
            refine ⟨k + 1, by omega, by go_num, ?_, ?_, ?_⟩
            · rw [map_take_snoc _ _ _ _ H.out.2.2.2.2]; exact hown5
            · exact (((H.out.2.2.1.below HT.out.2 hsz).alloc _).below hB5 (by omega))
            · exact ((H.out.2.2.2.1.trans (HT.out.2.mono (by omega))).alloc (by omega) _).trans (hB5.mono (by omega))
          case measure => simp [intOf]; omega
    · have hke : k = ts.length := by omega
      subst hke
      rw [List.take_length] at hown
      have H := hide (And.intro hown hB)
      clear hown hB hbv hs
      go_wp2
      go_ret
      exact ⟨_, rfl, H.out.1.base_le (by omega), H.out.2⟩
end Go.Proofs.YtelfnmohpjkilaaGreatDoor
