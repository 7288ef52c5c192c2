/- Joined texts: LessT Merge04. -/
import Derived.Deep.QuietTactic
import Derived.Deep.RegionHeld3
import Derived.BigQuiet
import Derived.Test.YtfljcgehhnmamaaCB1
import Derived.Test.YtfljcgehhnmamaaCB8
import Derived.Test.YtfljcgehhnmamaaCB9
import Derived.Test.YtfljcgehhnmamaaCB10
import Derived.Test.YtfljcgehhnmamaaCB14
import Derived.Test.YtfljcgehhnmamaaCB20
/- ref04.lessTri: the order of triangles, corner by corner. -/
namespace Go.Proofs.Ytfljcgehhnmamaa
open Go.RowKit
theorem ltT_0 {s t : Tri} (h : s.1 ≠ t.1) : ltT s t = ltP s.1 t.1 := by simp [ltT, lexB, h]
theorem ltT_1 {s t : Tri} (h0 : s.1 = t.1) (h : s.2.1 ≠ t.2.1) : ltT s t = ltP s.2.1 t.2.1 := by simp [ltT, lexB, h0, h, sto_P.irrefl]
theorem ltT_2 {s t : Tri} (h0 : s.1 = t.1) (h1 : s.2.1 = t.2.1) : ltT s t = ltP s.2.2 t.2.2 := by simp [ltT, lexB, h0, h1, sto_P.irrefl]
set_option maxRecDepth 100000 in
set_option maxHeartbeats 4000000 in
theorem lessTri_any (s t : Tri) (hfs : fitsT s) (hft : fitsT t) (w : World) : Calls Try.prog 96 #[vT s, vT t] w fun e w' => e = .returned (.bool (ltT s t)) ∧ Below w.heap.size w w' := by
  go_enter Try.func96, Try.ntmps96
  go_wp2
  obtain ⟨W, hW⟩ : ∃ W, W = (w.alloc (.cells (encT s).toArray 40)).alloc (.cells (encT t).toArray 40) := ⟨_, rfl⟩
  have hbs : Blk W w.heap.size 40 (encT s).toArray := by rw [hW]; exact (Blk.new _ _ _).alloc _
  have hbt : Blk W (w.heap.size + 1) 40 (encT t).toArray := by rw [hW]; exact Blk.new' _ _ _ _ (by simp)
  have hB : Below w.heap.size w W := by rw [hW]; exact ((Below.refl _ _).alloc (Nat.le_refl _) _).alloc (by simp) _
  have H := hide (And.intro hbs (And.intro hbt (And.intro hB (And.intro hfs hft))))
  clear hW hbs hbt hB hfs hft
  go_loopw [5] (fun i wr => ∃ j : Nat, j ≤ 3 ∧ i = .int .i64 j ∧ Blk wr w.heap.size 40 (encT s).toArray ∧ Blk wr (w.heap.size + 1) 40 (encT t).toArray ∧ Below w.heap.size w wr ∧ (0 < j → s.1 = t.1) ∧ (1 < j → s.2.1 = t.2.1) ∧ (2 < j → s.2.2 = t.2.2)) (fun i _ => 3 - (intOf i).toNat)
  case atStart => exact ⟨0, by omega, rfl, (Blk.new _ _ _).alloc _, Blk.new' _ _ _ _ (by simp), ((Below.refl _ _).alloc (Nat.le_refl _) _).alloc (by simp) _, by omega, by omega, by omega⟩
  case round =>
    obtain ⟨j, hj, rfl, hbs, hbt, hB, e0, e1, e2⟩ := hrel
    have hc : j = 0 ∨ j = 1 ∨ j = 2 ∨ j = 3 := by omega
    rcases hc with rfl | rfl | rfl | rfl
    · have hq := eqP s.1 t.1 H.out.2.2.2.1.1 H.out.2.2.2.2.1
      have q0 : wr.cell? ⟨w.heap.size, 0, none⟩ = some (.int .i64 s.1.1) := hbs.cell 0
      have q1 : wr.cell? ⟨w.heap.size, 1, none⟩ = some (.int .i64 s.1.2.1) := hbs.cell 1
      have q2 : wr.cell? ⟨w.heap.size, 2, none⟩ = some (.int .i64 s.1.2.2) := hbs.cell 2
      have k0 : wr.cell? ⟨w.heap.size + 1, 0, none⟩ = some (.int .i64 t.1.1) := hbt.cell 0
      have k1 : wr.cell? ⟨w.heap.size + 1, 1, none⟩ = some (.int .i64 t.1.2.1) := hbt.cell 1
      have k2 : wr.cell? ⟨w.heap.size + 1, 2, none⟩ = some (.int .i64 t.1.2.2) := hbt.cell 2
      have HH := hide (And.intro hbs (And.intro hbt (And.intro hB (And.intro e0 (And.intro e1 e2)))))
      clear hbs hbt hB e0 e1 e2
      by_cases he : s.1 = t.1
      · have hd : decide (s.1 = t.1) = true := by simp [he]
        rw [hd] at hq
        have HE := hide he
        clear he hd
        go_wp2_with fail
        go_quiet (fail)
        go_wp2
        go_roundw
        case rel => exact ⟨1, by omega, rfl, HH.out.1, HH.out.2.1, below_drewN HH.out.2.2.1 _, fun _ => HE.out, by omega, by omega⟩
        case measure => simp [intOf]
      · have hd : decide (s.1 = t.1) = false := by simp [he]
        rw [hd] at hq
        have HE := hide he
        clear he hd
        go_wp2_with fail
        go_quiet (fail)
        go_wp2_with fail
        go_region_held3 (fun w' => w'.cell? ⟨w.heap.size, 0, none⟩ = some (.int .i64 s.1.1) ∧ w'.cell? ⟨w.heap.size, 1, none⟩ = some (.int .i64 s.1.2.1) ∧ w'.cell? ⟨w.heap.size, 2, none⟩ = some (.int .i64 s.1.2.2) ∧ w'.cell? ⟨w.heap.size + 1, 0, none⟩ = some (.int .i64 t.1.1) ∧ w'.cell? ⟨w.heap.size + 1, 1, none⟩ = some (.int .i64 t.1.2.1) ∧ w'.cell? ⟨w.heap.size + 1, 2, none⟩ = some (.int .i64 t.1.2.2)) (first | go_keep | exact ⟨(cell_lay hL q0), (cell_lay hL q1), (cell_lay hL q2), (cell_lay hL k0), (cell_lay hL k1), (cell_lay hL k2)⟩) ((go_at_call 64; refine (rless_any s.1 t.1 _).mono ?_; rintro e w1 ⟨rfl, hL⟩))
        go_wp2
        go_ret
        exact ⟨by rw [ltT_0 HE.out]; rfl, (below_drewN HH.out.2.2.1 _).trans (hL.below.mono (HH.out.2.2.1).size)⟩
    · have hq := eqP s.2.1 t.2.1 H.out.2.2.2.1.2.1 H.out.2.2.2.2.2.1
      have q0 : wr.cell? ⟨w.heap.size, 3, none⟩ = some (.int .i64 s.2.1.1) := hbs.cell 3
      have q1 : wr.cell? ⟨w.heap.size, 4, none⟩ = some (.int .i64 s.2.1.2.1) := hbs.cell 4
      have q2 : wr.cell? ⟨w.heap.size, 5, none⟩ = some (.int .i64 s.2.1.2.2) := hbs.cell 5
      have k0 : wr.cell? ⟨w.heap.size + 1, 3, none⟩ = some (.int .i64 t.2.1.1) := hbt.cell 3
      have k1 : wr.cell? ⟨w.heap.size + 1, 4, none⟩ = some (.int .i64 t.2.1.2.1) := hbt.cell 4
      have k2 : wr.cell? ⟨w.heap.size + 1, 5, none⟩ = some (.int .i64 t.2.1.2.2) := hbt.cell 5
      have HH := hide (And.intro hbs (And.intro hbt (And.intro hB (And.intro e0 (And.intro e1 e2)))))
      clear hbs hbt hB e0 e1 e2
      by_cases he : s.2.1 = t.2.1
      · have hd : decide (s.2.1 = t.2.1) = true := by simp [he]
        rw [hd] at hq
        have HE := hide he
        clear he hd
        go_wp2_with fail
        go_quiet (fail)
        go_wp2
        go_roundw
        case rel => exact ⟨2, by omega, rfl, HH.out.1, HH.out.2.1, below_drewN HH.out.2.2.1 _, fun _ => HH.out.2.2.2.1 (by omega), fun _ => HE.out, by omega⟩
        case measure => simp [intOf]
      · have hd : decide (s.2.1 = t.2.1) = false := by simp [he]
        rw [hd] at hq
        have HE := hide he
        clear he hd
        go_wp2_with fail
        go_quiet (fail)
        go_wp2_with fail
        go_region_held3 (fun w' => w'.cell? ⟨w.heap.size, 3, none⟩ = some (.int .i64 s.2.1.1) ∧ w'.cell? ⟨w.heap.size, 4, none⟩ = some (.int .i64 s.2.1.2.1) ∧ w'.cell? ⟨w.heap.size, 5, none⟩ = some (.int .i64 s.2.1.2.2) ∧ w'.cell? ⟨w.heap.size + 1, 3, none⟩ = some (.int .i64 t.2.1.1) ∧ w'.cell? ⟨w.heap.size + 1, 4, none⟩ = some (.int .i64 t.2.1.2.1) ∧ w'.cell? ⟨w.heap.size + 1, 5, none⟩ = some (.int .i64 t.2.1.2.2)) (first | go_keep | exact ⟨(cell_lay hL q0), (cell_lay hL q1), (cell_lay hL q2), (cell_lay hL k0), (cell_lay hL k1), (cell_lay hL k2)⟩) ((go_at_call 64; refine (rless_any s.2.1 t.2.1 _).mono ?_; rintro e w1 ⟨rfl, hL⟩))
        go_wp2
        go_ret
        exact ⟨by rw [ltT_1 (HH.out.2.2.2.1 (by omega)) HE.out]; rfl, (below_drewN HH.out.2.2.1 _).trans (hL.below.mono (HH.out.2.2.1).size)⟩
    · have hq := eqP s.2.2 t.2.2 H.out.2.2.2.1.2.2 H.out.2.2.2.2.2.2
      have q0 : wr.cell? ⟨w.heap.size, 6, none⟩ = some (.int .i64 s.2.2.1) := hbs.cell 6
      have q1 : wr.cell? ⟨w.heap.size, 7, none⟩ = some (.int .i64 s.2.2.2.1) := hbs.cell 7
      have q2 : wr.cell? ⟨w.heap.size, 8, none⟩ = some (.int .i64 s.2.2.2.2) := hbs.cell 8
      have k0 : wr.cell? ⟨w.heap.size + 1, 6, none⟩ = some (.int .i64 t.2.2.1) := hbt.cell 6
      have k1 : wr.cell? ⟨w.heap.size + 1, 7, none⟩ = some (.int .i64 t.2.2.2.1) := hbt.cell 7
      have k2 : wr.cell? ⟨w.heap.size + 1, 8, none⟩ = some (.int .i64 t.2.2.2.2) := hbt.cell 8
      have HH := hide (And.intro hbs (And.intro hbt (And.intro hB (And.intro e0 (And.intro e1 e2)))))
      clear hbs hbt hB e0 e1 e2
      by_cases he : s.2.2 = t.2.2
      · have hd : decide (s.2.2 = t.2.2) = true := by simp [he]
        rw [hd] at hq
        have HE := hide he
        clear he hd
        go_wp2_with fail
        go_quiet (fail)
        go_wp2
        go_roundw
        case rel => exact ⟨3, by omega, rfl, HH.out.1, HH.out.2.1, below_drewN HH.out.2.2.1 _, fun _ => HH.out.2.2.2.1 (by omega), fun _ => HH.out.2.2.2.2.1 (by omega), fun _ => HE.out⟩
        case measure => simp [intOf]
      · have hd : decide (s.2.2 = t.2.2) = false := by simp [he]
        rw [hd] at hq
        have HE := hide he
        clear he hd
        go_wp2_with fail
        go_quiet (fail)
        go_wp2_with fail
        go_region_held3 (fun w' => w'.cell? ⟨w.heap.size, 6, none⟩ = some (.int .i64 s.2.2.1) ∧ w'.cell? ⟨w.heap.size, 7, none⟩ = some (.int .i64 s.2.2.2.1) ∧ w'.cell? ⟨w.heap.size, 8, none⟩ = some (.int .i64 s.2.2.2.2) ∧ w'.cell? ⟨w.heap.size + 1, 6, none⟩ = some (.int .i64 t.2.2.1) ∧ w'.cell? ⟨w.heap.size + 1, 7, none⟩ = some (.int .i64 t.2.2.2.1) ∧ w'.cell? ⟨w.heap.size + 1, 8, none⟩ = some (.int .i64 t.2.2.2.2)) (first | go_keep | exact ⟨(cell_lay hL q0), (cell_lay hL q1), (cell_lay hL q2), (cell_lay hL k0), (cell_lay hL k1), (cell_lay hL k2)⟩) ((go_at_call 64; refine (rless_any s.2.2 t.2.2 _).mono ?_; rintro e w1 ⟨rfl, hL⟩))
        go_wp2
        go_ret
        exact ⟨by rw [ltT_2 (HH.out.2.2.2.1 (by omega)) (HH.out.2.2.2.2.1 (by omega))]; rfl, (below_drewN HH.out.2.2.1 _).trans (hL.below.mono (HH.out.2.2.1).size)⟩
    · have h0 := e0 (by omega)
      have h1 := e1 (by omega)
      have h2 := e2 (by omega)
      have HH := hide (And.intro hB (And.intro h0 (And.intro h1 h2)))
      clear hbs hbt hB e0 e1 e2 h0 h1 h2
      have d3 : ((3 : Int) < 3) = False := by simp
      go_wp2
      go_ret
      refine ⟨?_, HH.out.1⟩
      rw [ltT_2 HH.out.2.1 HH.out.2.2.1, HH.out.2.2.2, sto_P.irrefl]
      rfl
end Go.Proofs.Ytfljcgehhnmamaa
/- ref04.merge. -/
namespace Go.Proofs.Ytfljcgehhnmamaa
open Go.RowKit Go.Sort
theorem below_drew (w : World) : Below w.heap.size w w.drew := below_drewN (Below.refl _ w) 1
theorem tot_T : Tot ltT := ⟨sto_T.irrefl, sto_T.trans, sto_T.total⟩
theorem tot_P : Tot ltP := ⟨sto_P.irrefl, sto_P.trans, sto_P.total⟩
abbrev mergeT (xs ys : List Tri) : List Tri := List.merge xs ys (leO ltT)
set_option maxRecDepth 100000 in
set_option maxHeartbeats 8000000 in
theorem merge_any (A B : Option Addr) (c d : Nat) (xs ys : List Tri) (w : World) (hx : Sl encT 9 w w.heap.size A xs) (hy : Sl encT 9 w w.heap.size B ys) (hlx : xs.length ≤ 4294967296) (hly : ys.length ≤ 4294967296) (hd : ys.length ≤ d)
    (hfx : ∀ t ∈ xs, fitsT t) (hfy : ∀ t ∈ ys, fitsT t) :
    Calls Try.prog 79 #[.slice A xs.length c, .slice B ys.length d] w fun e w' => ∃ v, e = .returned v ∧ Own encT 9 40 w' w.heap.size v (xs.length + ys.length) (mergeT xs ys) ∧ Below w.heap.size w w' := by
  have H := hide (And.intro hx (And.intro hy (And.intro hfx hfy)))
  clear hx hy hfx hfy
  go_enter Try.func79, Try.ntmps79
  go_wp2
  go_loopw [5, 6, 7] (fun o j i wr => ∃ (k m : Nat) (done : List Tri), k ≤ xs.length ∧ m ≤ ys.length ∧ i = .int .i64 k ∧ j = .int .i64 m ∧ Own encT 9 40 wr w.heap.size o (k + m) done ∧ done ++ mergeT (xs.drop k) (ys.drop m) = mergeT xs ys ∧ Below w.heap.size w wr) (fun _ _ i _ => xs.length - (intOf i).toNat)
  case atStart => exact ⟨0, 0, [], Nat.zero_le _, Nat.zero_le _, rfl, rfl, Own.nil, rfl, Below.refl _ w⟩
  case round =>
    obtain ⟨k, m0, done0, hk, hm0, rfl, rfl, hown0, heq0, hB0⟩ := hrel
    by_cases hlt : k < xs.length
    · obtain ⟨x, hxk⟩ : ∃ x, xs[k]? = some x := ⟨_, List.getElem?_eq_getElem hlt⟩
      have hfx : fitsT x := H.out.2.2.1 x (List.mem_of_getElem? hxk)
      obtain ⟨bA, oA, hA, hbA, hcx⟩ := H.out.1.tri hxk
      subst hA
      have HX := hide (And.intro hxk (And.intro hfx hcx))
      have H0 := hide (And.intro hown0 (And.intro heq0 hB0))
      have i1 : (k : Int) < (xs.length : Int) := by omega
      clear hxk hfx hcx hown0 heq0 hB0
      go_wp2
      go_loopw [5, 6] (fun o j wr => ∃ (m : Nat) (done : List Tri), m ≤ ys.length ∧ j = .int .i64 m ∧ Own encT 9 40 wr w.heap.size o (k + m) done ∧ done ++ mergeT (xs.drop k) (ys.drop m) = mergeT xs ys ∧ Below w.heap.size w wr) (fun _ j _ => ys.length - (intOf j).toNat)
      case atStart => exact ⟨m0, done0, hm0, rfl, H0.out.1, H0.out.2.1, H0.out.2.2⟩
      case round =>
        obtain ⟨m, done, hm, rfl, hown, heq, hB⟩ := hrel
        obtain ⟨Aq, cq, rfl⟩ := hown.form
        have hszB := hB.size
        have hbAr : bA < wr.heap.size := by omega
        have g0 := (hB.cell (p := ⟨bA, _, none⟩) hbA).trans HX.out.2.2.1
        have g1 := (hB.cell (p := ⟨bA, _, none⟩) hbA).trans HX.out.2.2.2.1
        have g2 := (hB.cell (p := ⟨bA, _, none⟩) hbA).trans HX.out.2.2.2.2.1
        have g3 := (hB.cell (p := ⟨bA, _, none⟩) hbA).trans HX.out.2.2.2.2.2.1
        have g4 := (hB.cell (p := ⟨bA, _, none⟩) hbA).trans HX.out.2.2.2.2.2.2.1
        have g5 := (hB.cell (p := ⟨bA, _, none⟩) hbA).trans HX.out.2.2.2.2.2.2.2.1
        have g6 := (hB.cell (p := ⟨bA, _, none⟩) hbA).trans HX.out.2.2.2.2.2.2.2.2.1
        have g7 := (hB.cell (p := ⟨bA, _, none⟩) hbA).trans HX.out.2.2.2.2.2.2.2.2.2.1
        have g8 := (hB.cell (p := ⟨bA, _, none⟩) hbA).trans HX.out.2.2.2.2.2.2.2.2.2.2
        have H1 := hide (And.intro hown (And.intro heq hB))
        clear hown heq hB
        by_cases hlm : m < ys.length
        · obtain ⟨y, hym⟩ : ∃ y, ys[m]? = some y := ⟨_, List.getElem?_eq_getElem hlm⟩
          have hfy : fitsT y := H.out.2.2.2 y (List.mem_of_getElem? hym)
          obtain ⟨bB, oB, hBB, hbB, hcy⟩ := H.out.2.1.tri hym
          subst hBB
          have hbBr : bB < wr.heap.size := by omega
          have i2 : (m : Int) < (ys.length : Int) := by omega
          have k0 := (H1.out.2.2.cell (p := ⟨bB, _, none⟩) hbB).trans hcy.1
          have k1 := (H1.out.2.2.cell (p := ⟨bB, _, none⟩) hbB).trans hcy.2.1
          have k2 := (H1.out.2.2.cell (p := ⟨bB, _, none⟩) hbB).trans hcy.2.2.1
          have k3 := (H1.out.2.2.cell (p := ⟨bB, _, none⟩) hbB).trans hcy.2.2.2.1
          have k4 := (H1.out.2.2.cell (p := ⟨bB, _, none⟩) hbB).trans hcy.2.2.2.2.1
          have k5 := (H1.out.2.2.cell (p := ⟨bB, _, none⟩) hbB).trans hcy.2.2.2.2.2.1
          have k6 := (H1.out.2.2.cell (p := ⟨bB, _, none⟩) hbB).trans hcy.2.2.2.2.2.2.1
          have k7 := (H1.out.2.2.cell (p := ⟨bB, _, none⟩) hbB).trans hcy.2.2.2.2.2.2.2.1
          have k8 := (H1.out.2.2.cell (p := ⟨bB, _, none⟩) hbB).trans hcy.2.2.2.2.2.2.2.2
          have HY := hide (And.intro hym hfy)
          clear hcy hym hfy
          by_cases hless : ltT y x = true
          · have HL := hide hless
            go_wp2_with fail
            go_region_held3 (fun w' => w'.cell? ⟨bA, oA + k * 9, none⟩ = some (.int .i64 x.1.1) ∧ w'.cell? ⟨bA, oA + k * 9 + 1, none⟩ = some (.int .i64 x.1.2.1) ∧ w'.cell? ⟨bA, oA + k * 9 + 2, none⟩ = some (.int .i64 x.1.2.2) ∧ w'.cell? ⟨bA, oA + k * 9 + 3, none⟩ = some (.int .i64 x.2.1.1) ∧ w'.cell? ⟨bA, oA + k * 9 + 4, none⟩ = some (.int .i64 x.2.1.2.1) ∧ w'.cell? ⟨bA, oA + k * 9 + 5, none⟩ = some (.int .i64 x.2.1.2.2) ∧ w'.cell? ⟨bA, oA + k * 9 + 6, none⟩ = some (.int .i64 x.2.2.1) ∧ w'.cell? ⟨bA, oA + k * 9 + 7, none⟩ = some (.int .i64 x.2.2.2.1) ∧ w'.cell? ⟨bA, oA + k * 9 + 8, none⟩ = some (.int .i64 x.2.2.2.2) ∧ w'.cell? ⟨bB, oB + m * 9, none⟩ = some (.int .i64 y.1.1) ∧ w'.cell? ⟨bB, oB + m * 9 + 1, none⟩ = some (.int .i64 y.1.2.1) ∧ w'.cell? ⟨bB, oB + m * 9 + 2, none⟩ = some (.int .i64 y.1.2.2) ∧ w'.cell? ⟨bB, oB + m * 9 + 3, none⟩ = some (.int .i64 y.2.1.1) ∧ w'.cell? ⟨bB, oB + m * 9 + 4, none⟩ = some (.int .i64 y.2.1.2.1) ∧ w'.cell? ⟨bB, oB + m * 9 + 5, none⟩ = some (.int .i64 y.2.1.2.2) ∧ w'.cell? ⟨bB, oB + m * 9 + 6, none⟩ = some (.int .i64 y.2.2.1) ∧ w'.cell? ⟨bB, oB + m * 9 + 7, none⟩ = some (.int .i64 y.2.2.2.1) ∧ w'.cell? ⟨bB, oB + m * 9 + 8, none⟩ = some (.int .i64 y.2.2.2.2)) (first | go_keep | exact ⟨(hL.cell (p := ⟨bA, _, none⟩) hbAr).trans g0, (hL.cell (p := ⟨bA, _, none⟩) hbAr).trans g1, (hL.cell (p := ⟨bA, _, none⟩) hbAr).trans g2, (hL.cell (p := ⟨bA, _, none⟩) hbAr).trans g3, (hL.cell (p := ⟨bA, _, none⟩) hbAr).trans g4, (hL.cell (p := ⟨bA, _, none⟩) hbAr).trans g5, (hL.cell (p := ⟨bA, _, none⟩) hbAr).trans g6, (hL.cell (p := ⟨bA, _, none⟩) hbAr).trans g7, (hL.cell (p := ⟨bA, _, none⟩) hbAr).trans g8, (hL.cell (p := ⟨bB, _, none⟩) hbBr).trans k0, (hL.cell (p := ⟨bB, _, none⟩) hbBr).trans k1, (hL.cell (p := ⟨bB, _, none⟩) hbBr).trans k2, (hL.cell (p := ⟨bB, _, none⟩) hbBr).trans k3, (hL.cell (p := ⟨bB, _, none⟩) hbBr).trans k4, (hL.cell (p := ⟨bB, _, none⟩) hbBr).trans k5, (hL.cell (p := ⟨bB, _, none⟩) hbBr).trans k6, (hL.cell (p := ⟨bB, _, none⟩) hbBr).trans k7, (hL.cell (p := ⟨bB, _, none⟩) hbBr).trans k8⟩) ((go_at_call 96; refine (lessTri_any y x HY.out.2 HX.out.2.1 _).mono ?_; rintro e w1 ⟨rfl, hL⟩; rw [hless]))
            have hL := (below_drew wr).trans hL
            have hLs := hL.size
            have hbB1 : bB < w1.heap.size := by have : wr.heap.size ≤ w1.heap.size := hLs; omega
            have q0 := (hL.cell (p := ⟨bB, _, none⟩) hbBr).trans k0
            have q1 := (hL.cell (p := ⟨bB, _, none⟩) hbBr).trans k1
            have q2 := (hL.cell (p := ⟨bB, _, none⟩) hbBr).trans k2
            have q3 := (hL.cell (p := ⟨bB, _, none⟩) hbBr).trans k3
            have q4 := (hL.cell (p := ⟨bB, _, none⟩) hbBr).trans k4
            have q5 := (hL.cell (p := ⟨bB, _, none⟩) hbBr).trans k5
            have q6 := (hL.cell (p := ⟨bB, _, none⟩) hbBr).trans k6
            have q7 := (hL.cell (p := ⟨bB, _, none⟩) hbBr).trans k7
            have q8 := (hL.cell (p := ⟨bB, _, none⟩) hbBr).trans k8
            have hB1 : Below w.heap.size w w1 := (H1.out.2.2.trans (hL.mono hszB))
            have hs1 := hB1.size
            have hown1 := (H1.out.1.below (w' := w1) hL (Nat.le_refl _)).alloc (.cells (encT y).toArray 40)
            have H2 := hide hB1
            clear hB1 hL hLs g0 g1 g2 g3 g4 g5 g6 g7 g8 k0 k1 k2 k3 k4 k5 k6 k7 k8
            go_wp2_with (at_builtin; refine wpList_append1 rfl _ _ _ rfl Try.underlying29 infoT rfl (by omega) encT_len encT_one rfl hown1 w1.heap.size 1 y rfl (Blk.new _ _ _) (by unfold maxLen; omega) (by omega) (by simp; omega) ?_; intro g cap w5 hown5 hg5 hB5 hat5 hgb5 hlt5)
            go_roundw
            case rel => exact ⟨m + 1, done ++ [y], by omega, by go_num, hown5, by rw [List.append_assoc, List.singleton_append, ← merge_right HX.out.1 HY.out.1 HL.out]; exact H1.out.2.1, (H2.out.alloc hs1 _).trans hB5⟩
            case measure => simp [intOf]; omega
          · have hlf : ltT y x = false := by simpa using hless
            have HL := hide hlf
            clear hless
            go_wp2_with fail
            go_region_held3 (fun w' => w'.cell? ⟨bA, oA + k * 9, none⟩ = some (.int .i64 x.1.1) ∧ w'.cell? ⟨bA, oA + k * 9 + 1, none⟩ = some (.int .i64 x.1.2.1) ∧ w'.cell? ⟨bA, oA + k * 9 + 2, none⟩ = some (.int .i64 x.1.2.2) ∧ w'.cell? ⟨bA, oA + k * 9 + 3, none⟩ = some (.int .i64 x.2.1.1) ∧ w'.cell? ⟨bA, oA + k * 9 + 4, none⟩ = some (.int .i64 x.2.1.2.1) ∧ w'.cell? ⟨bA, oA + k * 9 + 5, none⟩ = some (.int .i64 x.2.1.2.2) ∧ w'.cell? ⟨bA, oA + k * 9 + 6, none⟩ = some (.int .i64 x.2.2.1) ∧ w'.cell? ⟨bA, oA + k * 9 + 7, none⟩ = some (.int .i64 x.2.2.2.1) ∧ w'.cell? ⟨bA, oA + k * 9 + 8, none⟩ = some (.int .i64 x.2.2.2.2) ∧ w'.cell? ⟨bB, oB + m * 9, none⟩ = some (.int .i64 y.1.1) ∧ w'.cell? ⟨bB, oB + m * 9 + 1, none⟩ = some (.int .i64 y.1.2.1) ∧ w'.cell? ⟨bB, oB + m * 9 + 2, none⟩ = some (.int .i64 y.1.2.2) ∧ w'.cell? ⟨bB, oB + m * 9 + 3, none⟩ = some (.int .i64 y.2.1.1) ∧ w'.cell? ⟨bB, oB + m * 9 + 4, none⟩ = some (.int .i64 y.2.1.2.1) ∧ w'.cell? ⟨bB, oB + m * 9 + 5, none⟩ = some (.int .i64 y.2.1.2.2) ∧ w'.cell? ⟨bB, oB + m * 9 + 6, none⟩ = some (.int .i64 y.2.2.1) ∧ w'.cell? ⟨bB, oB + m * 9 + 7, none⟩ = some (.int .i64 y.2.2.2.1) ∧ w'.cell? ⟨bB, oB + m * 9 + 8, none⟩ = some (.int .i64 y.2.2.2.2)) (first | go_keep | exact ⟨(hL.cell (p := ⟨bA, _, none⟩) hbAr).trans g0, (hL.cell (p := ⟨bA, _, none⟩) hbAr).trans g1, (hL.cell (p := ⟨bA, _, none⟩) hbAr).trans g2, (hL.cell (p := ⟨bA, _, none⟩) hbAr).trans g3, (hL.cell (p := ⟨bA, _, none⟩) hbAr).trans g4, (hL.cell (p := ⟨bA, _, none⟩) hbAr).trans g5, (hL.cell (p := ⟨bA, _, none⟩) hbAr).trans g6, (hL.cell (p := ⟨bA, _, none⟩) hbAr).trans g7, (hL.cell (p := ⟨bA, _, none⟩) hbAr).trans g8, (hL.cell (p := ⟨bB, _, none⟩) hbBr).trans k0, (hL.cell (p := ⟨bB, _, none⟩) hbBr).trans k1, (hL.cell (p := ⟨bB, _, none⟩) hbBr).trans k2, (hL.cell (p := ⟨bB, _, none⟩) hbBr).trans k3, (hL.cell (p := ⟨bB, _, none⟩) hbBr).trans k4, (hL.cell (p := ⟨bB, _, none⟩) hbBr).trans k5, (hL.cell (p := ⟨bB, _, none⟩) hbBr).trans k6, (hL.cell (p := ⟨bB, _, none⟩) hbBr).trans k7, (hL.cell (p := ⟨bB, _, none⟩) hbBr).trans k8⟩) ((go_at_call 96; refine (lessTri_any y x HY.out.2 HX.out.2.1 _).mono ?_; rintro e w1 ⟨rfl, hL⟩; rw [hlf]))
            have hL := (below_drew wr).trans hL
            have q0 := (hL.cell (p := ⟨bA, _, none⟩) hbAr).trans g0
            have q1 := (hL.cell (p := ⟨bA, _, none⟩) hbAr).trans g1
            have q2 := (hL.cell (p := ⟨bA, _, none⟩) hbAr).trans g2
            have q3 := (hL.cell (p := ⟨bA, _, none⟩) hbAr).trans g3
            have q4 := (hL.cell (p := ⟨bA, _, none⟩) hbAr).trans g4
            have q5 := (hL.cell (p := ⟨bA, _, none⟩) hbAr).trans g5
            have q6 := (hL.cell (p := ⟨bA, _, none⟩) hbAr).trans g6
            have q7 := (hL.cell (p := ⟨bA, _, none⟩) hbAr).trans g7
            have q8 := (hL.cell (p := ⟨bA, _, none⟩) hbAr).trans g8
            have HLs := hide hL
            clear hlf hL g0 g1 g2 g3 g4 g5 g6 g7 g8 k0 k1 k2 k3 k4 k5 k6 k7 k8
            have hgk : Own encT 9 40 w1 w.heap.size (.slice Aq ((k + m : Nat)) cq) (k + m) done := H1.out.1.below (w' := w1) HLs.out (Nat.le_refl _)
            have hBk : Below w.heap.size w w1 := H1.out.2.2.trans (HLs.out.mono hszB)
            have hszk := hBk.size
            have HK := hide (And.intro hgk hBk)
            have hgk2 := HK.out.1.alloc (.cells (encT x).toArray 40)
            clear hgk hBk
            go_wp2_with (at_builtin; refine wpList_append1 rfl _ _ _ rfl Try.underlying29 infoT rfl (by omega) encT_len encT_one rfl hgk2 w1.heap.size 1 x rfl (Blk.new _ _ _) (by unfold maxLen; omega) (by omega) (by simp; omega) ?_; intro g cap w5 hown5 hg5 hB5 hat5 hgb5 hlt5)
            go_roundw
            case rel => exact ⟨k + 1, m, done ++ [x], by omega, by omega, by go_num, rfl, by rw [show k + 1 + m = k + m + 1 by omega]; exact hown5, by rw [List.append_assoc, List.singleton_append, ← merge_left HX.out.1 (fun y' hy' => by rw [HY.out.1] at hy'; cases hy'; exact HL.out)]; exact H1.out.2.1, (HK.out.2.alloc hszk _).trans hB5⟩
            case measure => simp [intOf]; omega
        · have hme : m = ys.length := by omega
          have HM := hide hme
          clear hme
          have hgk : Own encT 9 40 wr w.heap.size (.slice Aq ((k + m : Nat)) cq) (k + m) done := H1.out.1
          have hBk : Below w.heap.size w wr := H1.out.2.2
          have hszk := hBk.size
          have HK := hide (And.intro hgk hBk)
          have hgk2 := HK.out.1.alloc (.cells (encT x).toArray 40)
          clear hgk hBk
          go_wp2_with (at_builtin; refine wpList_append1 rfl _ _ _ rfl Try.underlying29 infoT rfl (by omega) encT_len encT_one rfl hgk2 wr.heap.size 1 x rfl (Blk.new _ _ _) (by unfold maxLen; omega) (by omega) (by simp; omega) ?_; intro g cap w5 hown5 hg5 hB5 hat5 hgb5 hlt5)
          go_roundw
          case rel => exact ⟨k + 1, m, done ++ [x], by omega, by omega, by go_num, rfl, by rw [show k + 1 + m = k + m + 1 by omega]; exact hown5, by rw [List.append_assoc, List.singleton_append, ← merge_left HX.out.1 (fun y' hy' => by rw [HM.out, List.getElem?_eq_none (Nat.le_refl _)] at hy'; cases hy')]; exact H1.out.2.1, (HK.out.2.alloc hszk _).trans hB5⟩
          case measure => simp [intOf]; omega
    · have hke : k = xs.length := by omega
      subst hke
      have hsz := hB0.size
      rw [mergeT, merge_end (Nat.le_refl _)] at heq0
      obtain ⟨Aq, cq, rfl⟩ := hown0.form
      have hcut : Sl encT 9 wr wr.heap.size (cutA B d m0 9) (ys.drop m0) := ((H.out.2.1.below hB0).cut (Nat.le_of_lt_succ (by omega)) hd).more hsz
      have hrun : ∀ V : World, (Instr.slice 29 (.slice B ys.length d) (some (.int .i64 m0)) none none).run Try.prog V = .ok (.slice (cutA B d m0 9) (ys.length - m0) (d - m0)) V := fun V => by
        exact run_cut Try.underlying29 Try.sizeOf40 hm0 V
      have HC := hide (And.intro hcut (And.intro hown0 (And.intro heq0 (And.intro hB0 hm0))))
      clear hcut hown0 heq0 hB0 hm0
      go_wp2_with (at_builtin; refine wpList_appendS rfl _ _ _ rfl Try.underlying29 infoT rfl (by omega) encT_len encT_one rfl HC.out.2.1 (cutA B d m0 9) (d - m0) wr.heap.size (ys.drop m0) (by rw [List.length_drop]; rfl) HC.out.1 (by have := HC.out.2.2.2.2; rw [List.length_drop]; unfold maxLen; omega) (by have := HC.out.2.2.2.2; rw [List.length_drop]; omega) hsz ?_; intro v' w5 hown5 hg5 hB5 hat5)
      go_ret
      refine ⟨_, rfl, ?_, HC.out.2.2.2.1.trans hB5⟩
      rw [HC.out.2.2.1] at hown5
      have hm0 := HC.out.2.2.2.2
      rw [List.length_drop, show xs.length + m0 + (ys.length - m0) = xs.length + ys.length by omega] at hown5
      exact hown5
end Go.Proofs.Ytfljcgehhnmamaa
