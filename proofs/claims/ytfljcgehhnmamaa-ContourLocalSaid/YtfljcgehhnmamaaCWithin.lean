/- law08.within: the triangles that are not in another list lie in the eight cells of a vertex. -/
import Derived.IntWalk
import Derived.Test.YtfljcgehhnmamaaCLoc8P
import Derived.Test.YtfljcgehhnmamaaCSame05
namespace Go.Proofs.Ytfljcgehhnmamaa
open Go.RowKit
theorem CellsT.corner9 {w : World} {b o : Nat} {t : Tri} (h : CellsT w b o t) {j : Nat} (hj : j < 3) :
    w.cell? ⟨b, o + j * 3, none⟩ = some (.int .i64 (corner t j).1) ∧ w.cell? ⟨b, o + j * 3 + 1, none⟩ = some (.int .i64 (corner t j).2.1) ∧ w.cell? ⟨b, o + j * 3 + 2, none⟩ = some (.int .i64 (corner t j).2.2) := by
  obtain ⟨h0, h1, h2, h3, h4, h5, h6, h7, h8⟩ := h
  have hc : j = 0 ∨ j = 1 ∨ j = 2 := by omega
  rcases hc with rfl | rfl | rfl
  · exact ⟨h0, h1, h2⟩
  · exact ⟨h3, h4, h5⟩
  · exact ⟨h6, h7, h8⟩
theorem belowC {w w' : World} {b o n : Nat} {t : Tri} (h : CellsT w b o t) (hB : Below n w w') (hb : b < n) : CellsT w' b o t := by
  obtain ⟨h0, h1, h2, h3, h4, h5, h6, h7, h8⟩ := h
  exact ⟨(hB.cell (p := ⟨b, _, none⟩) hb).trans h0, (hB.cell (p := ⟨b, _, none⟩) hb).trans h1, (hB.cell (p := ⟨b, _, none⟩) hb).trans h2, (hB.cell (p := ⟨b, _, none⟩) hb).trans h3, (hB.cell (p := ⟨b, _, none⟩) hb).trans h4, (hB.cell (p := ⟨b, _, none⟩) hb).trans h5, (hB.cell (p := ⟨b, _, none⟩) hb).trans h6, (hB.cell (p := ⟨b, _, none⟩) hb).trans h7, (hB.cell (p := ⟨b, _, none⟩) hb).trans h8⟩
theorem boxT.at {x y z : Nat} {t : Tri} (h : boxT x y z t) {j : Nat} : boxP x y z (corner t j) := by
  unfold corner
  split
  · exact h.1
  · split
    · exact h.2.1
    · exact h.2.2
theorem rangeT.at {t : Tri} (h : rangeT t) {j : Nat} : rangeP (corner t j) := by
  unfold corner
  split
  · exact h.1
  · split
    · exact h.2.1
    · exact h.2.2
set_option maxRecDepth 100000 in
set_option maxHeartbeats 16000000 in
theorem within_true (A B : Option Addr) (c d : Nat) (xs ys : List Tri) (x y z : Nat) (w : World) (hx : Sl encT 9 w w.heap.size A xs) (hy : Sl encT 9 w w.heap.size B ys) (hlx : xs.length ≤ 1000000) (hly : ys.length ≤ 1000000) (hrx : ∀ t ∈ xs, rangeT t) (hry : ∀ t ∈ ys, rangeT t)
    (hb : (1 ≤ x ∧ x ≤ 7) ∧ (1 ≤ y ∧ y ≤ 7) ∧ (1 ≤ z ∧ z ≤ 7)) (hw : ∀ t ∈ xs, t ∈ ys ∨ boxT x y z t) :
    Calls Try.prog 25 #[.slice A xs.length c, .slice B ys.length d, .agg #[.int .i64 x, .int .i64 y, .int .i64 z], .int .i64 262144] w fun e w' => e = .returned (.bool true) ∧ Below w.heap.size w w' := by
  obtain ⟨nx, hnx⟩ : ∃ n, n = xs.length := ⟨_, rfl⟩
  obtain ⟨ny, hny⟩ : ∃ n, n = ys.length := ⟨_, rfl⟩
  rw [← hnx] at hlx ⊢
  rw [← hny] at hly ⊢
  have HS := hide (And.intro hx (And.intro hy (And.intro hrx (And.intro hry (And.intro hw (And.intro hnx hny))))))
  clear hx hy hrx hry hw hnx hny
  go_enter Try.func25, Try.ntmps25
  go_upto_region 1 with fail
  obtain ⟨X, hX⟩ : ∃ X, X = w.alloc (.cells #[.int .i64 x, .int .i64 y, .int .i64 z] 51) := ⟨_, rfl⟩
  rw [← hX]
  have hBX : Below w.heap.size w X := by rw [hX]; exact (Below.refl _ w).alloc (Nat.le_refl _) _
  have hbX : Blk X w.heap.size 51 #[.int .i64 x, .int .i64 y, .int .i64 z] := by rw [hX]; exact Blk.new _ _ _
  have hzX : X.heap.size = w.heap.size + 1 := by rw [hX]; simp
  have HX := hide (And.intro hBX (And.intro hbX (And.intro ((HS.out.1.below hBX).more hBX.size) ((HS.out.2.1.below hBX).more hBX.size))))
  clear hBX hbX hX
  go_wp2_with fail
  go_loopw [9] (fun kv wr => ∃ k : Nat, k ≤ nx ∧ kv = .int .i64 k ∧ Below X.heap.size X wr) (fun kv _ => nx - (intOf kv).toNat)
  case atStart => exact ⟨0, by omega, rfl, Below.refl _ X⟩
  case round =>
    obtain ⟨k, hk, rfl, hB⟩ := hrel
    obtain ⟨W, rfl⟩ : ∃ W, W = wr := ⟨_, rfl⟩
    have hzW := hB.size
    by_cases hlt : k < nx
    · have i1 : (k : Int) < (nx : Int) := by omega
      obtain ⟨u, hu⟩ : ∃ u, xs[k]? = some u := ⟨_, List.getElem?_eq_getElem (by rw [← HS.out.2.2.2.2.2.1]; exact hlt)⟩
      have hum := List.mem_of_getElem? hu
      have hur := HS.out.2.2.1 u hum
      have huw := HS.out.2.2.2.2.1 u hum
      obtain ⟨bA, oA, rfl, hbA, hcA⟩ := HX.out.2.2.1.tri hu
      have HcX := hide hcA
      have HB := hide (And.intro hB (And.intro (belowC hcA hB hbA) (And.intro hur huw)))
      clear hB hu hum hcA hur huw
      go_wp2_with fail
      go_loopw [10, 11] (fun fv jv wr => ∃ j n : Nat, j ≤ ny ∧ jv = .int .i64 j ∧ fv = .bool (decide (u ∈ ys.take j)) ∧ wr = W.drewN n) (fun _ jv _ => ny - (intOf jv).toNat)
      case atStart => exact ⟨0, 0, by omega, rfl, by simp, rfl⟩
      case round =>
        obtain ⟨j, n, hj, rfl, rfl, rfl⟩ := hrel
        by_cases hjl : j < ny
        · have i2 : (j : Int) < (ny : Int) := by omega
          obtain ⟨v, hv⟩ : ∃ v, ys[j]? = some v := ⟨_, List.getElem?_eq_getElem (by rw [← HS.out.2.2.2.2.2.2]; exact hjl)⟩
          have hvr := HS.out.2.2.2.1 v (List.mem_of_getElem? hv)
          obtain ⟨bB, oB, hBB, hbB, k0, k1, k2, k3, k4, k5, k6, k7, k8⟩ := ((HX.out.2.2.2.below HB.out.1)).tri hv
          subst hBB
          have hsnoc : ys.take (j + 1) = ys.take j ++ [v] := by rw [List.take_add_one, hv]; rfl
          obtain ⟨b, hb'⟩ : ∃ b, b = decide (u ∈ ys.take j) := ⟨_, rfl⟩
          rw [← hb']
          have hq := eqT u v HB.out.2.2.1.fit hvr.fit
          cases b with
          | true =>
            have hnext : decide (u ∈ ys.take (j + 1)) = true := by
              have hm := of_decide_eq_true hb'.symm
              rw [hsnoc]; exact decide_eq_true (List.mem_append.2 (.inl hm))
            have HN := hide hnext
            clear hv hvr hsnoc hb' hq hnext k0 k1 k2 k3 k4 k5 k6 k7 k8
            go_wp2_with fail
            go_quiet (fail)
            go_wp2
            go_roundw
            case rel => exact ⟨j + 1, n + nq, by omega, by go_num, by rw [HN.out], rfl⟩
            case measure => simp [intOf]; omega
          | false =>
            have hnm := of_decide_eq_false hb'.symm
            obtain ⟨g0, g1, g2, g3, g4, g5, g6, g7, g8⟩ := HB.out.2.1
            by_cases huv : u = v
            · have hd : decide (u = v) = true := decide_eq_true huv
              have hnext : decide (u ∈ ys.take (j + 1)) = true := by
                rw [hsnoc, huv]; exact decide_eq_true (List.mem_append.2 (.inr (by simp)))
              rw [hd] at hq
              have HN := hide hnext
              clear hv hvr hsnoc hb' hnext hd huv hnm
              go_wp2_with fail
              go_quiet (fail)
              go_wp2
              go_roundw
              case rel => exact ⟨j + 1, n + nq, by omega, by go_num, by rw [HN.out], rfl⟩
              case measure => simp [intOf]; omega
            · have hd : decide (u = v) = false := decide_eq_false huv
              have hnext : decide (u ∈ ys.take (j + 1)) = false := by
                rw [hsnoc]
                refine decide_eq_false fun h => ?_
                rcases List.mem_append.1 h with h | h
                · exact hnm h
                · exact huv (List.mem_singleton.1 h)
              rw [hd] at hq
              have HN := hide hnext
              clear hv hvr hsnoc hb' hnext hd huv hnm
              go_wp2_with fail
              go_quiet (fail)
              go_wp2
              go_roundw
              case rel => exact ⟨j + 1, n + nq, by omega, by go_num, by rw [HN.out], rfl⟩
              case measure => simp [intOf]; omega
        · have hje : j = ny := by omega
          have htk : ys.take j = ys := by rw [hje, HS.out.2.2.2.2.2.2]; exact List.take_length
          rw [htk]
          obtain ⟨f, hf⟩ : ∃ f, f = decide (u ∈ ys) := ⟨_, rfl⟩
          rw [← hf]
          cases f with
          | true =>
            have HF := hide hf
            clear hf htk
            have HBn := hide (below_drewN HB.out.1 n)
            obtain ⟨V, hV⟩ : ∃ V, V = W.drewN n := ⟨_, rfl⟩
            rw [← hV]
            rw [← hV] at HBn
            clear hV
            go_wp2_with fail
            go_loopw [12] (fun jv wr => jv = .int .i64 0 ∧ wr = V) (fun _ _ => 0)
            case atStart => exact ⟨rfl, rfl⟩
            case round =>
              obtain ⟨rfl, rfl⟩ := hrel
              go_wp2
              go_roundw
              case rel => exact ⟨k + 1, by omega, by go_num, HBn.out⟩
              case measure => simp [intOf]; omega
          | false =>
            have hbx : boxT x y z u := by
              rcases HB.out.2.2.2 with h | h
              · exact absurd h (of_decide_eq_false hf.symm)
              · exact h
            have HF := hide (And.intro hf hbx)
            clear hf htk hbx
            have HBn := hide (below_drewN HB.out.1 n)
            have hcn : CellsT (W.drewN n) bA (oA + k * 9) u := HB.out.2.1
            obtain ⟨V, hV⟩ : ∃ V, V = W.drewN n := ⟨_, rfl⟩
            rw [← hV]
            rw [← hV] at HBn hcn
            have HC := hide hcn
            clear hV hcn
            go_wp2_with fail
            go_loopw [12] (fun jv wr => ∃ j : Nat, j ≤ 3 ∧ jv = .int .i64 j ∧ Below X.heap.size X wr) (fun jv _ => 3 - (intOf jv).toNat)
            case atStart => exact ⟨0, by omega, rfl, HBn.out⟩
            case round =>
              obtain ⟨j, hj, rfl, hB⟩ := hrel
              have hzr := hB.size
              by_cases hj3 : j < 3
              · have hc : j = 0 ∨ j = 1 ∨ j = 2 := by omega
                have hvec := HX.out.2.1.below hB (by omega)
                have v0 : wr.cell? ⟨w.heap.size, 0, none⟩ = some (.int .i64 x) := hvec.cell 0
                have v1 : wr.cell? ⟨w.heap.size, 1, none⟩ = some (.int .i64 y) := hvec.cell 1
                have v2 : wr.cell? ⟨w.heap.size, 2, none⟩ = some (.int .i64 z) := hvec.cell 2
                have hbl : bA < X.heap.size := hbA
                have hbox := HF.out.2.at (j := j)
                have hrg := HB.out.2.2.1.at (j := j)
                unfold boxP at hbox
                unfold rangeP at hrg
                rcases hc with rfl | rfl | rfl
                · obtain ⟨e0, e1, e2⟩ := (belowC HcX.out hB hbl).corner9 (j := 0) (by omega)
                  obtain ⟨p, hp⟩ : ∃ p, p = corner u 0 := ⟨_, rfl⟩
                  rw [← hp] at hbox hrg
                  have q0 : wr.cell? ⟨bA, oA + k * 9, none⟩ = some (.int .i64 p.1) := by rw [hp]; exact e0
                  have q1 : wr.cell? ⟨bA, oA + k * 9 + 1, none⟩ = some (.int .i64 p.2.1) := by rw [hp]; exact e1
                  have q2 : wr.cell? ⟨bA, oA + k * 9 + 2, none⟩ = some (.int .i64 p.2.2) := by rw [hp]; exact e2
                  clear e0 e1 e2 hp
                  have HBr := hide hB
                  clear hB hvec
                  go_upto_region 13 with fail
                  obtain ⟨Y, hY⟩ : ∃ Y, Y = wr.alloc (.cells #[.int .i64 p.1, .int .i64 p.2.1, .int .i64 p.2.2] 38) := ⟨_, rfl⟩
                  rw [← hY]
                  have hbY : Blk Y wr.heap.size 38 #[.int .i64 p.1, .int .i64 p.2.1, .int .i64 p.2.2] := by rw [hY]; exact Blk.new _ _ _
                  have y0 : Y.cell? ⟨wr.heap.size, 0, none⟩ = some (.int .i64 p.1) := hbY.cell 0
                  have y1 : Y.cell? ⟨wr.heap.size, 1, none⟩ = some (.int .i64 p.2.1) := hbY.cell 1
                  have y2 : Y.cell? ⟨wr.heap.size, 2, none⟩ = some (.int .i64 p.2.2) := hbY.cell 2
                  have hBY : Below X.heap.size X Y := by rw [hY]; exact HBr.out.alloc hzr _
                  have hvY := HX.out.2.1.below hBY (by omega)
                  have x0 : Y.cell? ⟨w.heap.size, 0, none⟩ = some (.int .i64 x) := hvY.cell 0
                  have x1 : Y.cell? ⟨w.heap.size, 1, none⟩ = some (.int .i64 y) := hvY.cell 1
                  have x2 : Y.cell? ⟨w.heap.size, 2, none⟩ = some (.int .i64 z) := hvY.cell 2
                  have HYB := hide hBY
                  clear hbY hvY hBY hY q0 q1 q2 v0 v1 v2
                  obtain ⟨⟨⟨l0, l1⟩, l2, l3⟩, l4, l5⟩ := hbox
                  have n0 : ¬ p.1 < ((x : Int) - 1) * 262144 := by omega
                  have n1 : ¬ ((x : Int) + 1) * 262144 < p.1 := by omega
                  have n2 : ¬ p.2.1 < ((y : Int) - 1) * 262144 := by omega
                  have n3 : ¬ ((y : Int) + 1) * 262144 < p.2.1 := by omega
                  have n4 : ¬ p.2.2 < ((z : Int) - 1) * 262144 := by omega
                  have n5 : ¬ ((z : Int) + 1) * 262144 < p.2.2 := by omega
                  clear l0 l1 l2 l3 l4 l5
                  go_wp2
                  go_roundw
                  case rel => exact ⟨0 + 1, by omega, by go_num, HYB.out⟩
                  case measure => simp [intOf]
                · obtain ⟨e0, e1, e2⟩ := (belowC HcX.out hB hbl).corner9 (j := 1) (by omega)
                  obtain ⟨p, hp⟩ : ∃ p, p = corner u 1 := ⟨_, rfl⟩
                  rw [← hp] at hbox hrg
                  have q0 : wr.cell? ⟨bA, oA + k * 9 + 3, none⟩ = some (.int .i64 p.1) := by rw [hp]; exact e0
                  have q1 : wr.cell? ⟨bA, oA + k * 9 + 4, none⟩ = some (.int .i64 p.2.1) := by rw [hp]; exact e1
                  have q2 : wr.cell? ⟨bA, oA + k * 9 + 5, none⟩ = some (.int .i64 p.2.2) := by rw [hp]; exact e2
                  clear e0 e1 e2 hp
                  have HBr := hide hB
                  clear hB hvec
                  go_upto_region 13 with fail
                  obtain ⟨Y, hY⟩ : ∃ Y, Y = wr.alloc (.cells #[.int .i64 p.1, .int .i64 p.2.1, .int .i64 p.2.2] 38) := ⟨_, rfl⟩
                  rw [← hY]
                  have hbY : Blk Y wr.heap.size 38 #[.int .i64 p.1, .int .i64 p.2.1, .int .i64 p.2.2] := by rw [hY]; exact Blk.new _ _ _
                  have y0 : Y.cell? ⟨wr.heap.size, 0, none⟩ = some (.int .i64 p.1) := hbY.cell 0
                  have y1 : Y.cell? ⟨wr.heap.size, 1, none⟩ = some (.int .i64 p.2.1) := hbY.cell 1
                  have y2 : Y.cell? ⟨wr.heap.size, 2, none⟩ = some (.int .i64 p.2.2) := hbY.cell 2
                  have hBY : Below X.heap.size X Y := by rw [hY]; exact HBr.out.alloc hzr _
                  have hvY := HX.out.2.1.below hBY (by omega)
                  have x0 : Y.cell? ⟨w.heap.size, 0, none⟩ = some (.int .i64 x) := hvY.cell 0
                  have x1 : Y.cell? ⟨w.heap.size, 1, none⟩ = some (.int .i64 y) := hvY.cell 1
                  have x2 : Y.cell? ⟨w.heap.size, 2, none⟩ = some (.int .i64 z) := hvY.cell 2
                  have HYB := hide hBY
                  clear hbY hvY hBY hY q0 q1 q2 v0 v1 v2
                  obtain ⟨⟨⟨l0, l1⟩, l2, l3⟩, l4, l5⟩ := hbox
                  have n0 : ¬ p.1 < ((x : Int) - 1) * 262144 := by omega
                  have n1 : ¬ ((x : Int) + 1) * 262144 < p.1 := by omega
                  have n2 : ¬ p.2.1 < ((y : Int) - 1) * 262144 := by omega
                  have n3 : ¬ ((y : Int) + 1) * 262144 < p.2.1 := by omega
                  have n4 : ¬ p.2.2 < ((z : Int) - 1) * 262144 := by omega
                  have n5 : ¬ ((z : Int) + 1) * 262144 < p.2.2 := by omega
                  clear l0 l1 l2 l3 l4 l5
                  go_wp2
                  go_roundw
                  case rel => exact ⟨1 + 1, by omega, by go_num, HYB.out⟩
                  case measure => simp [intOf]
                · obtain ⟨e0, e1, e2⟩ := (belowC HcX.out hB hbl).corner9 (j := 2) (by omega)
                  obtain ⟨p, hp⟩ : ∃ p, p = corner u 2 := ⟨_, rfl⟩
                  rw [← hp] at hbox hrg
                  have q0 : wr.cell? ⟨bA, oA + k * 9 + 6, none⟩ = some (.int .i64 p.1) := by rw [hp]; exact e0
                  have q1 : wr.cell? ⟨bA, oA + k * 9 + 7, none⟩ = some (.int .i64 p.2.1) := by rw [hp]; exact e1
                  have q2 : wr.cell? ⟨bA, oA + k * 9 + 8, none⟩ = some (.int .i64 p.2.2) := by rw [hp]; exact e2
                  clear e0 e1 e2 hp
                  have HBr := hide hB
                  clear hB hvec
                  go_upto_region 13 with fail
                  obtain ⟨Y, hY⟩ : ∃ Y, Y = wr.alloc (.cells #[.int .i64 p.1, .int .i64 p.2.1, .int .i64 p.2.2] 38) := ⟨_, rfl⟩
                  rw [← hY]
                  have hbY : Blk Y wr.heap.size 38 #[.int .i64 p.1, .int .i64 p.2.1, .int .i64 p.2.2] := by rw [hY]; exact Blk.new _ _ _
                  have y0 : Y.cell? ⟨wr.heap.size, 0, none⟩ = some (.int .i64 p.1) := hbY.cell 0
                  have y1 : Y.cell? ⟨wr.heap.size, 1, none⟩ = some (.int .i64 p.2.1) := hbY.cell 1
                  have y2 : Y.cell? ⟨wr.heap.size, 2, none⟩ = some (.int .i64 p.2.2) := hbY.cell 2
                  have hBY : Below X.heap.size X Y := by rw [hY]; exact HBr.out.alloc hzr _
                  have hvY := HX.out.2.1.below hBY (by omega)
                  have x0 : Y.cell? ⟨w.heap.size, 0, none⟩ = some (.int .i64 x) := hvY.cell 0
                  have x1 : Y.cell? ⟨w.heap.size, 1, none⟩ = some (.int .i64 y) := hvY.cell 1
                  have x2 : Y.cell? ⟨w.heap.size, 2, none⟩ = some (.int .i64 z) := hvY.cell 2
                  have HYB := hide hBY
                  clear hbY hvY hBY hY q0 q1 q2 v0 v1 v2
                  obtain ⟨⟨⟨l0, l1⟩, l2, l3⟩, l4, l5⟩ := hbox
                  have n0 : ¬ p.1 < ((x : Int) - 1) * 262144 := by omega
                  have n1 : ¬ ((x : Int) + 1) * 262144 < p.1 := by omega
                  have n2 : ¬ p.2.1 < ((y : Int) - 1) * 262144 := by omega
                  have n3 : ¬ ((y : Int) + 1) * 262144 < p.2.1 := by omega
                  have n4 : ¬ p.2.2 < ((z : Int) - 1) * 262144 := by omega
                  have n5 : ¬ ((z : Int) + 1) * 262144 < p.2.2 := by omega
                  clear l0 l1 l2 l3 l4 l5
                  go_wp2
                  go_roundw
                  case rel => exact ⟨2 + 1, by omega, by go_num, HYB.out⟩
                  case measure => simp [intOf]
              · have hj3e : j = 3 := by omega
                subst hj3e
                have HE := hide hB
                clear hB
                go_wp2
                go_roundw
                case rel => exact ⟨k + 1, by omega, by go_num, HE.out⟩
                case measure => simp [intOf]; omega
    · have hE := HX.out.1.trans (hB.mono (by omega))
      have HE := hide hE
      clear hE hB
      go_wp2
      go_ret
      exact ⟨rfl, HE.out⟩
end Go.Proofs.Ytfljcgehhnmamaa
