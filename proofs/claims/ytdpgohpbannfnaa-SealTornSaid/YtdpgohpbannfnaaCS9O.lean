/- ref07.touch (printed by mk_S9O.py). -/
import Derived.Test.YtdpgohpbannfnaaCS9L
import Derived.Test.YtdpgohpbannfnaaCS9E
namespace Go.Proofs.Ytdpgohpbannfnaa
open Go.RowKit Go.Sort Go.WideMaps Go.Maps
theorem lits3 (p : Pt) (hp : fitsP p) : Try.prog.keyLits 2 42 [.int .i64 p.1, .int .i64 p.2.1, .int .i64 p.2.2] = some [.int .i64 p.1, .int .i64 p.2.1, .int .i64 p.2.2] := by
  obtain ⟨h0, h1, h2⟩ := hp
  have w0 := fits_wf h0
  have w1 := fits_wf h1
  have w2 := fits_wf h2
  have c : Try.prog.cellsOf 42 = 3 := by kernel_rfl
  have c1 : Try.prog.cellsOf 3 = 1 := by kernel_rfl
  simp [Program.keyLits, Try.underlying42, Try.underlying3, c, c1, w0, w1, w2, List.range, List.range.loop]
theorem eq3_any (p q : Pt) (hp : fitsP p) (hq : fitsP q) (w : World) : (Op.equalIn 10000 42 (vP p) (vP q)).run Try.prog w = .ok (decide (p = q)) w := by
  have c : Try.prog.cellsOf 42 = 3 := by kernel_rfl
  obtain ⟨r, hr, he⟩ := run_equalIn_deep (P := Try.prog) 9998 2 42 (by kernel_rfl) w 2 2 (vP p) (vP q) _ _ (by simp [Value.formed, Try.underlying42, c]) (by simp [Value.formed, Try.underlying42, c]) (lits3 p hp) (lits3 q hq)
  rw [hr]
  have : r = decide (p = q) := by
    rw [Bool.eq_iff_iff, he, decide_eq_true_eq]
    obtain ⟨x, y, z⟩ := p
    obtain ⟨x', y', z'⟩ := q
    simp
  rw [this]
/-- A cell of a face, by a number of 0 or 1. -/
def cellR (f : EF) (r : Nat) : Pt := add3 f.2 f.1 (-(r : Int))
theorem cellR_zero (f : EF) : cellR f 0 = f.2 := by
  unfold cellR add3
  rw [show cmp3 f.2 f.1 + -((0 : Nat) : Int) = cmp3 f.2 f.1 by omega, set3_cmp]
theorem touch_eq (f g : EF) : touch f g = (decide (cellR f 0 = cellR g 0) || (decide (cellR f 1 = cellR g 0) || (decide (cellR f 0 = cellR g 1) || decide (cellR f 1 = cellR g 1)))) := by
  unfold touch cellsF
  rw [cellR_zero, cellR_zero]
  simp only [List.any_cons, List.any_nil, Bool.or_false]
  show _ = (decide (f.2 = g.2) || (decide (add3 f.2 f.1 (-1) = g.2) || (decide (f.2 = add3 g.2 g.1 (-1)) || decide (add3 f.2 f.1 (-1) = add3 g.2 g.1 (-1)))))
  generalize decide (f.2 = g.2) = b0
  generalize decide (f.2 = add3 g.2 g.1 (-1)) = b1
  generalize decide (add3 f.2 f.1 (-1) = g.2) = b2
  generalize decide (add3 f.2 f.1 (-1) = add3 g.2 g.1 (-1)) = b3
  revert b0 b1 b2 b3
  decide
/-- Nothing met among the first i. -/
def notTo (f g : EF) (i : Nat) : Prop := ∀ j, j < i → cellR f (j % 2) ≠ cellR g (j / 2)
theorem notTo_end {f g : EF} (h : notTo f g 4) : touch f g = false := by
  rw [touch_eq, decide_eq_false (h 0 (by omega)), decide_eq_false (h 1 (by omega)), decide_eq_false (h 2 (by omega)), decide_eq_false (h 3 (by omega))]
  rfl
theorem met_now {f g : EF} {i : Nat} (hi : i < 4) (h : cellR f (i % 2) = cellR g (i / 2)) : touch f g = true := by
  rw [touch_eq]
  have hc : i = 0 ∨ i = 1 ∨ i = 2 ∨ i = 3 := by omega
  simp only [Bool.or_eq_true, decide_eq_true_eq]
  rcases hc with rfl | rfl | rfl | rfl
  · exact .inl h
  · exact .inr (.inl h)
  · exact .inr (.inr (.inl h))
  · exact .inr (.inr (.inr h))
/-- A face with small numbers. -/
def tinyF (f : EF) : Prop := (f.1 = 0 ∨ f.1 = 1 ∨ f.1 = 2) ∧ (0 ≤ f.2.1 ∧ f.2.1 ≤ 1000) ∧ (0 ≤ f.2.2.1 ∧ f.2.2.1 ≤ 1000) ∧ (0 ≤ f.2.2.2 ∧ f.2.2.2 ≤ 1000)
theorem cellR_fits {f : EF} (h : tinyF f) {r : Nat} (hr : r ≤ 1) : fitsP (cellR f r) := by
  obtain ⟨a, x, y, z⟩ := f
  unfold tinyF at h
  dsimp only at h
  obtain ⟨ha, h1, h2, h3⟩ := h
  unfold cellR add3
  rcases ha with rfl | rfl | rfl <;> (unfold fitsP; simp [set3, cmp3]; refine ⟨fitsI (by omega), fitsI (by omega), fitsI (by omega)⟩)
set_option maxRecDepth 100000 in
set_option maxHeartbeats 16000000 in
theorem touch7_any (f g : EF) (hf : tinyF f) (hg : tinyF g) (w : World) : Calls Try.prog 56 #[vF f, vF g] w fun e w' => e = .returned (.bool (touch f g)) ∧ Below w.heap.size w w' := by
  have hcf := fun r (hr : r ≤ 1) => cellR_fits hf (r := r) hr
  have hcg := fun r (hr : r ≤ 1) => cellR_fits hg (r := r) hr
  have hne := @notTo_end f g
  have hme := fun (i : Nat) (hi : i < 4) (h : cellR f (i % 2) = cellR g (i / 2)) => met_now hi h
  have hcell : ∀ r, cellR f r = add3 f.2 f.1 (-(r : Int)) ∧ cellR g r = add3 g.2 g.1 (-(r : Int)) := fun r => ⟨rfl, rfl⟩
  obtain ⟨NT, hNT⟩ : ∃ NT : Nat → Prop, NT = notTo f g := ⟨_, rfl⟩
  obtain ⟨tv, htv⟩ : ∃ v, v = touch f g := ⟨_, rfl⟩
  obtain ⟨CF, hCF⟩ : ∃ C : Nat → Pt, C = cellR f := ⟨_, rfl⟩
  obtain ⟨CG, hCG⟩ : ∃ C : Nat → Pt, C = cellR g := ⟨_, rfl⟩
  rw [← hCF] at hcf hcell hme
  rw [← hCG] at hcg hcell hme
  rw [← hNT, ← htv] at hne
  rw [← htv] at hme ⊢
  have hn0 : NT 0 := by rw [hNT]; exact fun j hj => by omega
  have hns : ∀ i, NT i → CF (i % 2) ≠ CG (i / 2) → NT (i + 1) := by
    rw [hNT, hCF, hCG]
    intro i h1 h2 j hj
    by_cases hji : j = i
    · rw [hji]; exact h2
    · exact h1 j (by omega)
  have H0 := hide (And.intro hcf (And.intro hcg (And.intro hne (And.intro hme (And.intro hcell (And.intro hn0 hns))))))
  clear hcf hcg hne hme hcell hNT htv hCF hCG hn0 hns
  obtain ⟨fa, fx, fy, fz⟩ := f
  obtain ⟨ga, gx, gy, gz⟩ := g
  unfold tinyF at hf hg
  dsimp only at hf hg
  obtain ⟨hfa, ⟨f1, f2⟩, ⟨f3, f4⟩, f5, f6⟩ := hf
  obtain ⟨hga, ⟨g1, g2⟩, ⟨g3, g4⟩, g5, g6⟩ := hg
  go_enter Try.func56, Try.ntmps56
  go_upto_region 1 with fail
  obtain ⟨X, hX⟩ : ∃ X, X = (w.alloc (.cells #[.int .i64 fa, .int .i64 fx, .int .i64 fy, .int .i64 fz] 45)).alloc (.cells #[.int .i64 ga, .int .i64 gx, .int .i64 gy, .int .i64 gz] 45) := ⟨_, rfl⟩
  rw [← hX]
  have hbf : Blk X w.heap.size 45 #[.int .i64 fa, .int .i64 fx, .int .i64 fy, .int .i64 fz] := by rw [hX]; exact (Blk.new _ _ _).alloc _
  have hbg : Blk X (w.heap.size + 1) 45 #[.int .i64 ga, .int .i64 gx, .int .i64 gy, .int .i64 gz] := by rw [hX]; exact Blk.new' _ _ _ _ (by simp)
  have hBX : Below w.heap.size w X := by rw [hX]; exact ((Below.refl _ w).alloc (Nat.le_refl _) _).alloc (by simp) _
  have KX := hide (And.intro hbf (And.intro hbg hBX))
  obtain ⟨a0, a1, a2, a3⟩ := hbf.four
  clear hX hbf hbg hBX
  go_wp2_with fail
  refine (coords7_any (fa, fx, fy, fz) X).mono ?_
  rintro e w1 ⟨rfl, hB⟩
  have K1 := hide (And.intro (KX.out.1.on hB) (And.intro (KX.out.2.1.on hB) (KX.out.2.2.trans (hB.mono KX.out.2.2.size))))
  clear hB a0 a1 a2 a3
  go_upto_region 2 with fail
  obtain ⟨X2, hX2⟩ : ∃ X, X = w1.alloc (.cells #[.int .i64 fx, .int .i64 fy, .int .i64 fz] 42) := ⟨_, rfl⟩
  rw [← hX2]
  have hB : Below w1.heap.size w1 X2 := by rw [hX2]; exact (Below.refl _ w1).alloc (Nat.le_refl _) _
  have K2 := hide (And.intro (show Blk X2 w1.heap.size 42 #[.int .i64 fx, .int .i64 fy, .int .i64 fz] by rw [hX2]; exact Blk.new _ _ _) (And.intro (K1.out.1.on hB) (And.intro (K1.out.2.1.on hB) (K1.out.2.2.trans (hB.mono K1.out.2.2.size)))))
  obtain ⟨p5, hp5⟩ : ∃ p, p = w1.heap.size := ⟨_, rfl⟩
  rw [← hp5] at K2 ⊢
  clear hB hX2 hp5
  obtain ⟨a0, a1, a2, a3⟩ := K2.out.2.2.1.four
  go_wp2_with fail
  refine (coords7_any (ga, gx, gy, gz) X2).mono ?_
  rintro e w2 ⟨rfl, hB⟩
  have K3 := hide (And.intro (K2.out.1.on hB) (And.intro (K2.out.2.1.on hB) (And.intro (K2.out.2.2.1.on hB) (K2.out.2.2.2.trans (hB.mono K2.out.2.2.2.size)))))
  clear hB a0 a1 a2 a3
  go_upto_region 3 with fail
  obtain ⟨X3, hX3⟩ : ∃ X, X = w2.alloc (.cells #[.int .i64 gx, .int .i64 gy, .int .i64 gz] 42) := ⟨_, rfl⟩
  rw [← hX3]
  have hB : Below w2.heap.size w2 X3 := by rw [hX3]; exact (Below.refl _ w2).alloc (Nat.le_refl _) _
  have K4 := hide (And.intro (K3.out.1.on hB) (And.intro (show Blk X3 w2.heap.size 42 #[.int .i64 gx, .int .i64 gy, .int .i64 gz] by rw [hX3]; exact Blk.new _ _ _) (And.intro (K3.out.2.1.on hB) (And.intro (K3.out.2.2.1.on hB) (K3.out.2.2.2.trans (hB.mono K3.out.2.2.2.size))))))
  obtain ⟨p6, hp6⟩ : ∃ p, p = w2.heap.size := ⟨_, rfl⟩
  rw [← hp6] at K4 ⊢
  clear hB hX3 hp6
  go_wp2_with fail
  go_loopw [7] (fun iv wr => ∃ i : Nat, i ≤ 4 ∧ iv = .int .i64 i ∧ NT i ∧ Below X3.heap.size X3 wr) (fun iv _ => 4 - (intOf iv).toNat)
  case atStart => exact ⟨0, by omega, rfl, H0.out.2.2.2.2.2.1, Below.refl _ _⟩
  case round =>
    obtain ⟨V, rfl⟩ : ∃ V, V = wr := ⟨_, rfl⟩
    obtain ⟨i, hi, rfl, hnt, hB⟩ := hrel
    have KV := hide (And.intro (K4.out.1.on hB) (And.intro (K4.out.2.1.on hB) (And.intro (K4.out.2.2.1.on hB) (And.intro (K4.out.2.2.2.1.on hB) (And.intro hB hnt)))))
    clear hB hnt
    by_cases hi4 : ¬ i < 4
    · obtain rfl : i = 4 := by omega
      have htf := H0.out.2.2.1 KV.out.2.2.2.2.2
      have HTF := hide htf
      clear htf
      have i1 : ¬ ((4 : Nat) : Int) < 4 := by omega
      have HZ := hide (K4.out.2.2.2.2.trans (KV.out.2.2.2.2.1.mono K4.out.2.2.2.2.size))
      rw [show ((4 : Nat) : Int) = 4 from rfl]
      go_wp2_with fail
      go_ret
      exact ⟨by rw [HTF.out]; rfl, HZ.out⟩
    · have i1 : (i : Int) < 4 := by omega
      obtain ⟨r, hr⟩ : ∃ r, r = i % 2 := ⟨_, rfl⟩
      obtain ⟨d, hd⟩ : ∃ d, d = i / 2 := ⟨_, rfl⟩
      have hr1 : r ≤ 1 := by omega
      have hd1 : d ≤ 1 := by omega
      have t1 : (i : Int).tmod 2 = (r : Int) := by rw [Int.tmod_eq_emod_of_nonneg (by omega)]; omega
      have t2 : (i : Int) / 2 = (d : Int) := by omega
      have t3 : IntKind.i64.wrap (d : Int) = (d : Int) := IntWalk.i64_in _ (by omega)
      have t4 : (i : Int).tdiv 2 = (d : Int) := by rw [Int.tdiv_eq_ediv_of_nonneg (by omega)]; omega
      have HI := hide (And.intro hr (And.intro hd (by omega : i < 4)))
      clear hr hd hi4
      obtain ⟨b0, b1, b2⟩ := KV.out.1.three
      go_upto_region 7 with fail
      obtain ⟨Y, hY⟩ : ∃ Y, Y = V.alloc (.cells #[.int .i64 fx, .int .i64 fy, .int .i64 fz] 42) := ⟨_, rfl⟩
      rw [← hY]
      have hB : Below V.heap.size V Y := by rw [hY]; exact (Below.refl _ V).alloc (Nat.le_refl _) _
      have hbY : Blk Y V.heap.size 42 #[.int .i64 fx, .int .i64 fy, .int .i64 fz] := by rw [hY]; exact Blk.new _ _ _
      have hp5V : p5 < V.heap.size := KV.out.1.lt
      have hp6V : p6 < V.heap.size := KV.out.2.1.lt
      have KY := hide (And.intro hbY hB)
      obtain ⟨a0, a1, a2, a3⟩ := (show Y.drew.cell? ⟨w.heap.size, 0, none⟩ = some (.int .i64 fa) ∧ Y.drew.cell? ⟨w.heap.size, 1, none⟩ = some (.int .i64 fx) ∧ Y.drew.cell? ⟨w.heap.size, 2, none⟩ = some (.int .i64 fy) ∧ Y.drew.cell? ⟨w.heap.size, 3, none⟩ = some (.int .i64 fz) from (KV.out.2.2.1.on hB).four)
      clear b0 b1 b2
      obtain ⟨b0, b1, b2⟩ := (show Y.drew.cell? ⟨V.heap.size, 0, none⟩ = some (.int .i64 fx) ∧ Y.drew.cell? ⟨V.heap.size, 1, none⟩ = some (.int .i64 fy) ∧ Y.drew.cell? ⟨V.heap.size, 2, none⟩ = some (.int .i64 fz) from hbY.three)
      have z0 := hbY.frozen 0
      have z1 := hbY.frozen 1
      have z2 := hbY.frozen 2
      clear hY hB hbY a1 a2 a3
      have HT2 := hide (And.intro t2 (And.intro t3 t4))
      clear t2 t3 t4
      go_cut [] (fun wx => ∃ x y z : Int, CF r = (x, y, z) ∧ Blk wx V.heap.size 42 #[.int .i64 x, .int .i64 y, .int .i64 z] ∧ Below V.heap.size V wx)
      case first =>
        have hcl := (H0.out.2.2.2.2.1 r).1
        rcases hfa with rfl | rfl | rfl
        · obtain ⟨v, hv⟩ : ∃ v, v = fx - (r : Int) := ⟨_, rfl⟩
          have u1 : IntKind.i64.wrap (fx - (r : Int)) = v := by rw [hv]; exact IntWalk.i64_in _ (by omega)
          have HV := hide hv
          have HC := hide hcl
          clear hv hcl
          go_still_tail 10, (by kernel_rfl)
          repeat still_step
          change wpList _ _ _ _ _ Y.drew
          go_wp2_with fail
          go_meet
          case rel =>
            refine ⟨v, fy, fz, ?_, KY.out.1.set_ 0 _, (KY.out.2.setCell (by dsimp only; omega) _).drew⟩
            rw [HC.out, HV.out]
            simp [add3, set3, cmp3]
            omega
        · obtain ⟨v, hv⟩ : ∃ v, v = fy - (r : Int) := ⟨_, rfl⟩
          have u1 : IntKind.i64.wrap (fy - (r : Int)) = v := by rw [hv]; exact IntWalk.i64_in _ (by omega)
          have HV := hide hv
          have HC := hide hcl
          clear hv hcl
          go_still_tail 10, (by kernel_rfl)
          repeat still_step
          change wpList _ _ _ _ _ Y.drew
          go_wp2_with fail
          go_meet
          case rel =>
            refine ⟨fx, v, fz, ?_, KY.out.1.set_ 1 _, (KY.out.2.setCell (by dsimp only; omega) _).drew⟩
            rw [HC.out, HV.out]
            simp [add3, set3, cmp3]
            omega
        · obtain ⟨v, hv⟩ : ∃ v, v = fz - (r : Int) := ⟨_, rfl⟩
          have u1 : IntKind.i64.wrap (fz - (r : Int)) = v := by rw [hv]; exact IntWalk.i64_in _ (by omega)
          have HV := hide hv
          have HC := hide hcl
          clear hv hcl
          go_still_tail 10, (by kernel_rfl)
          repeat still_step
          change wpList _ _ _ _ _ Y.drew
          go_wp2_with fail
          go_meet
          case rel =>
            refine ⟨fx, fy, v, ?_, KY.out.1.set_ 2 _, (KY.out.2.setCell (by dsimp only; omega) _).drew⟩
            rw [HC.out, HV.out]
            simp [add3, set3, cmp3]
            omega
      case rest =>
        obtain ⟨x, y, z, hC, hb, hB⟩ := hcut
        obtain ⟨T, rfl⟩ : ∃ T, T = wc := ⟨_, rfl⟩
        have KT := hide (And.intro hC (And.intro hb hB))
        have hTV := hB.size
        have hVT : V.heap.size < T.heap.size := hb.lt
        obtain ⟨c0, c1, c2⟩ := (KV.out.2.1.on hB).three
        clear hC hb hB a0 b0 b1 b2 z0 z1 z2 t1
        obtain ⟨t2, t3, t4⟩ := HT2.out
        go_upto_region 9 with fail
        obtain ⟨Y, hY⟩ : ∃ Y, Y = T.alloc (.cells #[.int .i64 gx, .int .i64 gy, .int .i64 gz] 42) := ⟨_, rfl⟩
        rw [← hY]
        have hB : Below T.heap.size T Y := by rw [hY]; exact (Below.refl _ T).alloc (Nat.le_refl _) _
        have hbY : Blk Y T.heap.size 42 #[.int .i64 gx, .int .i64 gy, .int .i64 gz] := by rw [hY]; exact Blk.new _ _ _
        have KY2 := hide (And.intro hbY hB)
        obtain ⟨a0, a1, a2, a3⟩ := (show Y.drew.cell? ⟨w.heap.size + 1, 0, none⟩ = some (.int .i64 ga) ∧ Y.drew.cell? ⟨w.heap.size + 1, 1, none⟩ = some (.int .i64 gx) ∧ Y.drew.cell? ⟨w.heap.size + 1, 2, none⟩ = some (.int .i64 gy) ∧ Y.drew.cell? ⟨w.heap.size + 1, 3, none⟩ = some (.int .i64 gz) from ((KV.out.2.2.2.1.on KT.out.2.2).on hB).four)
        clear c0 c1 c2
        obtain ⟨b0, b1, b2⟩ := (show Y.drew.cell? ⟨T.heap.size, 0, none⟩ = some (.int .i64 gx) ∧ Y.drew.cell? ⟨T.heap.size, 1, none⟩ = some (.int .i64 gy) ∧ Y.drew.cell? ⟨T.heap.size, 2, none⟩ = some (.int .i64 gz) from hbY.three)
        have z0 := hbY.frozen 0
        have z1 := hbY.frozen 1
        have z2 := hbY.frozen 2
        clear hY hB hbY a1 a2 a3
        go_cut [] (fun wx => ∃ x y z : Int, CG d = (x, y, z) ∧ Blk wx T.heap.size 42 #[.int .i64 x, .int .i64 y, .int .i64 z] ∧ Below T.heap.size T wx)
        case first =>
          have hcl := (H0.out.2.2.2.2.1 d).2
          rcases hga with rfl | rfl | rfl
          · obtain ⟨v, hv⟩ : ∃ v, v = gx - (d : Int) := ⟨_, rfl⟩
            have u1 : IntKind.i64.wrap (gx - (d : Int)) = v := by rw [hv]; exact IntWalk.i64_in _ (by omega)
            have HV := hide hv
            have HC := hide hcl
            clear hv hcl
            go_still_tail 10, (by kernel_rfl)
            repeat still_step
            change wpList _ _ _ _ _ Y.drew
            go_wp2_with fail
            go_meet
            case rel =>
              refine ⟨v, gy, gz, ?_, KY2.out.1.set_ 0 _, (KY2.out.2.setCell (by dsimp only; omega) _).drew⟩
              rw [HC.out, HV.out]
              simp [add3, set3, cmp3]
              omega
          · obtain ⟨v, hv⟩ : ∃ v, v = gy - (d : Int) := ⟨_, rfl⟩
            have u1 : IntKind.i64.wrap (gy - (d : Int)) = v := by rw [hv]; exact IntWalk.i64_in _ (by omega)
            have HV := hide hv
            have HC := hide hcl
            clear hv hcl
            go_still_tail 10, (by kernel_rfl)
            repeat still_step
            change wpList _ _ _ _ _ Y.drew
            go_wp2_with fail
            go_meet
            case rel =>
              refine ⟨gx, v, gz, ?_, KY2.out.1.set_ 1 _, (KY2.out.2.setCell (by dsimp only; omega) _).drew⟩
              rw [HC.out, HV.out]
              simp [add3, set3, cmp3]
              omega
          · obtain ⟨v, hv⟩ : ∃ v, v = gz - (d : Int) := ⟨_, rfl⟩
            have u1 : IntKind.i64.wrap (gz - (d : Int)) = v := by rw [hv]; exact IntWalk.i64_in _ (by omega)
            have HV := hide hv
            have HC := hide hcl
            clear hv hcl
            go_still_tail 10, (by kernel_rfl)
            repeat still_step
            change wpList _ _ _ _ _ Y.drew
            go_wp2_with fail
            go_meet
            case rel =>
              refine ⟨gx, gy, v, ?_, KY2.out.1.set_ 2 _, (KY2.out.2.setCell (by dsimp only; omega) _).drew⟩
              rw [HC.out, HV.out]
              simp [add3, set3, cmp3]
              omega
        case rest =>
          obtain ⟨x', y', z', hC, hb, hB⟩ := hcut
          obtain ⟨U, rfl⟩ : ∃ U, U = wc := ⟨_, rfl⟩
          have hb2 := KT.out.2.1.on hB
          have hq := eq3_any (x, y, z) (x', y', z') (by rw [← KT.out.1]; exact H0.out.1 r hr1) (by rw [← hC]; exact H0.out.2.1 d hd1)
          clear a0 b0 b1 b2 z0 z1 z2 t2 t3 t4
          obtain ⟨b0, b1, b2⟩ := hb2.three
          obtain ⟨c0, c1, c2⟩ := hb.three
          have hBV := KV.out.2.2.2.2.1.trans ((KT.out.2.2.trans (hB.mono KT.out.2.2.size)).mono KV.out.2.2.2.2.1.size)
          have KU := hide (And.intro hC hBV)
          clear hb hb2 hC hB hBV
          by_cases heq : ((x, y, z) : Pt) = (x', y', z')
          · rw [decide_eq_true heq] at hq
            have htv := H0.out.2.2.2.1 i HI.out.2.2 (by rw [← HI.out.1, ← HI.out.2.1, KT.out.1, KU.out.1]; exact heq)
            have HTV := hide htv
            clear heq htv
            go_wp2_with fail
            go_ret
            exact ⟨by rw [HTV.out]; rfl, K4.out.2.2.2.2.trans (KU.out.2.mono K4.out.2.2.2.2.size)⟩
          · rw [decide_eq_false heq] at hq
            have hnt := H0.out.2.2.2.2.2.2 i KV.out.2.2.2.2.2 (by rw [← HI.out.1, ← HI.out.2.1, KT.out.1, KU.out.1]; exact heq)
            have HNT := hide hnt
            clear heq hnt
            go_wp2_with fail
            go_roundw
            case rel => exact ⟨i + 1, by omega, by go_num, HNT.out, KU.out.2⟩
            case measure => simp [intOf]; omega
end Go.Proofs.Ytdpgohpbannfnaa
