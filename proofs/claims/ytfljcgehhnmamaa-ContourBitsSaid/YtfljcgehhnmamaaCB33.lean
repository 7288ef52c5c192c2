/- Joined texts: Ref8B. -/
import Derived.Deep.QuietTactic
import Derived.BigQuiet
import Derived.Deep.DeepCutAuto
import Derived.Test.YtfljcgehhnmamaaCB31
/- ref08.right (printed by mk_Ref8B.py). -/
namespace Go.Proofs.Ytfljcgehhnmamaa
open Go.RowKit
theorem mul9 {a b : Int} (ha : -3 ≤ a ∧ a ≤ 3) (hb : -3 ≤ b ∧ b ≤ 3) : -9 ≤ a * b ∧ a * b ≤ 9 := by
  have hc : a = -3 ∨ a = -2 ∨ a = -1 ∨ a = 0 ∨ a = 1 ∨ a = 2 ∨ a = 3 := by omega
  rcases hc with rfl | rfl | rfl | rfl | rfl | rfl | rfl <;> omega
set_option maxRecDepth 100000 in
set_option maxHeartbeats 16000000 in
theorem right_0 (p q v : Nat) (hp : p < 24) (hq : q < 24) (hv : v < 8) (pos : Bool) (w : World) :
    Calls Try.prog 95 #[.int .i64 p, .int .i64 q, .int .i64 v, .int .i64 0, .bool pos] w fun r w' => r = .returned (.bool (rightE p q v 0 pos)) ∧ Below w.heap.size w w' := by
  have hdet : detJ (placeE p) (placeE q) v 0 = ((placeE q).2.1 - (placeE p).2.1) * ((cornerP v).2.2 - (placeE p).2.2) - ((placeE q).2.2 - (placeE p).2.2) * ((cornerP v).2.1 - (placeE p).2.1) := rfl
  have hres : rightE p q v 0 pos = if pos then decide (detJ (placeE p) (placeE q) v 0 < 0) else decide (0 < detJ (placeE p) (placeE q) v 0) := rfl
  go_enter Try.func95, Try.ntmps95
  go_wp2_with fail
  refine (place_any p hp _).mono ?_
  rintro e w1 ⟨rfl, hB1⟩
  have hba := placeE_bd hp
  have hbb := placeE_bd hq
  obtain ⟨A, hA⟩ : ∃ A, A = placeE p := ⟨_, rfl⟩
  obtain ⟨B, hBe⟩ : ∃ B, B = placeE q := ⟨_, rfl⟩
  rw [← hA] at hba hdet hres ⊢
  rw [← hBe] at hbb hdet hres
  have hz1 := hB1.size
  have H1 := hide hB1
  have HE := hide (And.intro hA hBe)
  clear hB1 hA hBe
  go_wp2_with fail
  refine (place_any q hq _).mono ?_
  rintro e w2 ⟨rfl, hB2⟩
  rw [← HE.out.2]
  have hz2 := hB2.size
  have hbA := (Blk.new w1 51 #[.int .i64 A.1, .int .i64 A.2.1, .int .i64 A.2.2]).below hB2 (by simp)
  have hBw : Below w.heap.size w w2 := H1.out.trans (((Below.refl _ w1).alloc hz1 _).trans (hB2.mono (by simp; omega)))
  have hlA := hbA.lt
  have HA := hide (And.intro hbA hBw)
  clear hbA hBw hB2
  go_upto_region 3 with fail
  obtain ⟨Y, hY⟩ : ∃ Y, Y = w2.alloc (.cells #[.int .i64 B.1, .int .i64 B.2.1, .int .i64 B.2.2] 51) := ⟨_, rfl⟩
  rw [← hY]
  have hzY : Y.heap.size = w2.heap.size + 1 := by rw [hY]; simp
  have hYS : Blk Y w1.heap.size 51 #[.int .i64 A.1, .int .i64 A.2.1, .int .i64 A.2.2] ∧ Blk Y w2.heap.size 51 #[.int .i64 B.1, .int .i64 B.2.1, .int .i64 B.2.2] ∧ Below w.heap.size w Y := by
    rw [hY]; exact ⟨HA.out.1.alloc _, Blk.new _ _ _, HA.out.2.alloc HA.out.2.size _⟩
  have HY := hide hYS
  clear hYS hY
  have hbc := cornerP_bd v
  obtain ⟨C, hC⟩ : ∃ C, C = cornerP v := ⟨_, rfl⟩
  rw [← hC] at hbc hdet
  have HC := hide hC
  have HD := hide (And.intro hdet hres)
  clear hC hdet hres
  go_cut [13] (fun pv wx => pv = .pointer (some ⟨w2.heap.size + 1, 0, none⟩) ∧ Blk wx (w2.heap.size + 1) 51 #[.int .i64 C.1, .int .i64 C.2.1, .int .i64 C.2.2] ∧ Blk wx w1.heap.size 51 #[.int .i64 A.1, .int .i64 A.2.1, .int .i64 A.2.2] ∧ Blk wx w2.heap.size 51 #[.int .i64 B.1, .int .i64 B.2.1, .int .i64 B.2.2] ∧ Below w.heap.size w wx)
  case first =>
    have hcs : v = 0 ∨ v = 1 ∨ v = 2 ∨ v = 3 ∨ v = 4 ∨ v = 5 ∨ v = 6 ∨ v = 7 := by omega
    rcases hcs with rfl | rfl | rfl | rfl | rfl | rfl | rfl | rfl
    · have h1 : bits BinOp.and IntKind.i64 0 1 = 0 := by kernel_rfl
      have h2 : bits BinOp.and IntKind.i64 0 2 = 0 := by kernel_rfl
      go_wp2_with fail
      go_meet
      case rel =>
        refine ⟨rfl, ?_, HY.out.1.alloc _, HY.out.2.1.alloc _, HY.out.2.2.alloc (by have := HY.out.2.2.size; omega) _⟩
        rw [HC.out]
        exact Blk.new' _ _ _ _ hzY.symm
    · have h1 : bits BinOp.and IntKind.i64 1 1 = 1 := by kernel_rfl
      have h2 : bits BinOp.and IntKind.i64 1 2 = 0 := by kernel_rfl
      go_wp2_with fail
      go_meet
      case rel =>
        refine ⟨rfl, ?_, HY.out.1.alloc _, HY.out.2.1.alloc _, HY.out.2.2.alloc (by have := HY.out.2.2.size; omega) _⟩
        rw [HC.out]
        exact Blk.new' _ _ _ _ hzY.symm
    · have h1 : bits BinOp.and IntKind.i64 2 1 = 0 := by kernel_rfl
      have h2 : bits BinOp.and IntKind.i64 2 2 = 2 := by kernel_rfl
      go_wp2_with fail
      go_meet
      case rel =>
        refine ⟨rfl, ?_, HY.out.1.alloc _, HY.out.2.1.alloc _, HY.out.2.2.alloc (by have := HY.out.2.2.size; omega) _⟩
        rw [HC.out]
        exact Blk.new' _ _ _ _ hzY.symm
    · have h1 : bits BinOp.and IntKind.i64 3 1 = 1 := by kernel_rfl
      have h2 : bits BinOp.and IntKind.i64 3 2 = 2 := by kernel_rfl
      go_wp2_with fail
      go_meet
      case rel =>
        refine ⟨rfl, ?_, HY.out.1.alloc _, HY.out.2.1.alloc _, HY.out.2.2.alloc (by have := HY.out.2.2.size; omega) _⟩
        rw [HC.out]
        exact Blk.new' _ _ _ _ hzY.symm
    · have h1 : bits BinOp.and IntKind.i64 4 1 = 0 := by kernel_rfl
      have h2 : bits BinOp.and IntKind.i64 4 2 = 0 := by kernel_rfl
      go_wp2_with fail
      go_meet
      case rel =>
        refine ⟨rfl, ?_, HY.out.1.alloc _, HY.out.2.1.alloc _, HY.out.2.2.alloc (by have := HY.out.2.2.size; omega) _⟩
        rw [HC.out]
        exact Blk.new' _ _ _ _ hzY.symm
    · have h1 : bits BinOp.and IntKind.i64 5 1 = 1 := by kernel_rfl
      have h2 : bits BinOp.and IntKind.i64 5 2 = 0 := by kernel_rfl
      go_wp2_with fail
      go_meet
      case rel =>
        refine ⟨rfl, ?_, HY.out.1.alloc _, HY.out.2.1.alloc _, HY.out.2.2.alloc (by have := HY.out.2.2.size; omega) _⟩
        rw [HC.out]
        exact Blk.new' _ _ _ _ hzY.symm
    · have h1 : bits BinOp.and IntKind.i64 6 1 = 0 := by kernel_rfl
      have h2 : bits BinOp.and IntKind.i64 6 2 = 2 := by kernel_rfl
      go_wp2_with fail
      go_meet
      case rel =>
        refine ⟨rfl, ?_, HY.out.1.alloc _, HY.out.2.1.alloc _, HY.out.2.2.alloc (by have := HY.out.2.2.size; omega) _⟩
        rw [HC.out]
        exact Blk.new' _ _ _ _ hzY.symm
    · have h1 : bits BinOp.and IntKind.i64 7 1 = 1 := by kernel_rfl
      have h2 : bits BinOp.and IntKind.i64 7 2 = 2 := by kernel_rfl
      go_wp2_with fail
      go_meet
      case rel =>
        refine ⟨rfl, ?_, HY.out.1.alloc _, HY.out.2.1.alloc _, HY.out.2.2.alloc (by have := HY.out.2.2.size; omega) _⟩
        rw [HC.out]
        exact Blk.new' _ _ _ _ hzY.symm
  case rest =>
    obtain ⟨rfl, hb3, hb1, hb2, hBf⟩ := hcut
    obtain ⟨V, rfl⟩ : ∃ V, V = wc := ⟨_, rfl⟩
    obtain ⟨a0, a1, a2⟩ := hb1.three
    obtain ⟨b0, b1, b2⟩ := hb2.three
    obtain ⟨d0, d1, d2⟩ := hb3.three
    have HB := hide hBf
    clear hb1 hb2 hb3 hBf
    obtain ⟨u1, hu1⟩ : ∃ u, u = B.2.1 - A.2.1 := ⟨_, rfl⟩
    obtain ⟨u2, hu2⟩ : ∃ u, u = C.2.2 - A.2.2 := ⟨_, rfl⟩
    obtain ⟨u3, hu3⟩ : ∃ u, u = B.2.2 - A.2.2 := ⟨_, rfl⟩
    obtain ⟨u4, hu4⟩ : ∃ u, u = C.2.1 - A.2.1 := ⟨_, rfl⟩
    have hm1 := mul9 (a := u1) (b := u2) (by omega) (by omega)
    have hm2 := mul9 (a := u3) (b := u4) (by omega) (by omega)
    obtain ⟨m1, hm1e⟩ : ∃ m, m = u1 * u2 := ⟨_, rfl⟩
    obtain ⟨m2, hm2e⟩ : ∃ m, m = u3 * u4 := ⟨_, rfl⟩
    rw [← hm1e] at hm1
    rw [← hm2e] at hm2
    obtain ⟨dd, hdd⟩ : ∃ d, d = m1 - m2 := ⟨_, rfl⟩
    have hdet : detJ A B v 0 = dd := by rw [HD.out.1, ← hu1, ← hu2, ← hu3, ← hu4, ← hm1e, ← hm2e, ← hdd]
    have s1 : IntKind.i64.wrap (B.2.1 - A.2.1) = u1 := by rw [hu1]; exact IntWalk.i64_in _ (by omega)
    have s2 : IntKind.i64.wrap (C.2.2 - A.2.2) = u2 := by rw [hu2]; exact IntWalk.i64_in _ (by omega)
    have s3 : IntKind.i64.wrap (B.2.2 - A.2.2) = u3 := by rw [hu3]; exact IntWalk.i64_in _ (by omega)
    have s4 : IntKind.i64.wrap (C.2.1 - A.2.1) = u4 := by rw [hu4]; exact IntWalk.i64_in _ (by omega)
    have s5 : IntKind.i64.wrap (u1 * u2) = m1 := by rw [← hm1e]; exact IntWalk.i64_in _ (by omega)
    have s6 : IntKind.i64.wrap (u3 * u4) = m2 := by rw [← hm2e]; exact IntWalk.i64_in _ (by omega)
    have s7 : IntKind.i64.wrap (m1 - m2) = dd := by rw [← hdd]; exact IntWalk.i64_in _ (by omega)
    have hr2 := HD.out.2
    rw [hdet] at hr2
    have HR := hide hr2
    clear hdet hr2 hu1 hu2 hu3 hu4 hm1e hm2e hdd
    go_upto_region 6 with fail
    go_quiet (fail)
    clear s1 s2 s3 s4 s5 s6 s7
    cases pos with
    | true =>
      by_cases hs : dd < 0
      · go_wp2
        go_ret
        exact ⟨by rw [HR.out]; simp [hs], below_drewN HB.out nq⟩
      · go_wp2
        go_ret
        exact ⟨by rw [HR.out]; simp [hs], below_drewN HB.out nq⟩
    | false =>
      by_cases hs : 0 < dd
      · go_wp2
        go_ret
        exact ⟨by rw [HR.out]; simp [hs], below_drewN HB.out nq⟩
      · go_wp2
        go_ret
        exact ⟨by rw [HR.out]; simp [hs], below_drewN HB.out nq⟩
set_option maxRecDepth 100000 in
set_option maxHeartbeats 16000000 in
theorem right_1 (p q v : Nat) (hp : p < 24) (hq : q < 24) (hv : v < 8) (pos : Bool) (w : World) :
    Calls Try.prog 95 #[.int .i64 p, .int .i64 q, .int .i64 v, .int .i64 1, .bool pos] w fun r w' => r = .returned (.bool (rightE p q v 1 pos)) ∧ Below w.heap.size w w' := by
  have hdet : detJ (placeE p) (placeE q) v 1 = ((placeE q).2.2 - (placeE p).2.2) * ((cornerP v).1 - (placeE p).1) - ((placeE q).1 - (placeE p).1) * ((cornerP v).2.2 - (placeE p).2.2) := rfl
  have hres : rightE p q v 1 pos = if pos then decide (detJ (placeE p) (placeE q) v 1 < 0) else decide (0 < detJ (placeE p) (placeE q) v 1) := rfl
  go_enter Try.func95, Try.ntmps95
  go_wp2_with fail
  refine (place_any p hp _).mono ?_
  rintro e w1 ⟨rfl, hB1⟩
  have hba := placeE_bd hp
  have hbb := placeE_bd hq
  obtain ⟨A, hA⟩ : ∃ A, A = placeE p := ⟨_, rfl⟩
  obtain ⟨B, hBe⟩ : ∃ B, B = placeE q := ⟨_, rfl⟩
  rw [← hA] at hba hdet hres ⊢
  rw [← hBe] at hbb hdet hres
  have hz1 := hB1.size
  have H1 := hide hB1
  have HE := hide (And.intro hA hBe)
  clear hB1 hA hBe
  go_wp2_with fail
  refine (place_any q hq _).mono ?_
  rintro e w2 ⟨rfl, hB2⟩
  rw [← HE.out.2]
  have hz2 := hB2.size
  have hbA := (Blk.new w1 51 #[.int .i64 A.1, .int .i64 A.2.1, .int .i64 A.2.2]).below hB2 (by simp)
  have hBw : Below w.heap.size w w2 := H1.out.trans (((Below.refl _ w1).alloc hz1 _).trans (hB2.mono (by simp; omega)))
  have hlA := hbA.lt
  have HA := hide (And.intro hbA hBw)
  clear hbA hBw hB2
  go_upto_region 3 with fail
  obtain ⟨Y, hY⟩ : ∃ Y, Y = w2.alloc (.cells #[.int .i64 B.1, .int .i64 B.2.1, .int .i64 B.2.2] 51) := ⟨_, rfl⟩
  rw [← hY]
  have hzY : Y.heap.size = w2.heap.size + 1 := by rw [hY]; simp
  have hYS : Blk Y w1.heap.size 51 #[.int .i64 A.1, .int .i64 A.2.1, .int .i64 A.2.2] ∧ Blk Y w2.heap.size 51 #[.int .i64 B.1, .int .i64 B.2.1, .int .i64 B.2.2] ∧ Below w.heap.size w Y := by
    rw [hY]; exact ⟨HA.out.1.alloc _, Blk.new _ _ _, HA.out.2.alloc HA.out.2.size _⟩
  have HY := hide hYS
  clear hYS hY
  have hbc := cornerP_bd v
  obtain ⟨C, hC⟩ : ∃ C, C = cornerP v := ⟨_, rfl⟩
  rw [← hC] at hbc hdet
  have HC := hide hC
  have HD := hide (And.intro hdet hres)
  clear hC hdet hres
  go_cut [13] (fun pv wx => pv = .pointer (some ⟨w2.heap.size + 1, 0, none⟩) ∧ Blk wx (w2.heap.size + 1) 51 #[.int .i64 C.1, .int .i64 C.2.1, .int .i64 C.2.2] ∧ Blk wx w1.heap.size 51 #[.int .i64 A.1, .int .i64 A.2.1, .int .i64 A.2.2] ∧ Blk wx w2.heap.size 51 #[.int .i64 B.1, .int .i64 B.2.1, .int .i64 B.2.2] ∧ Below w.heap.size w wx)
  case first =>
    have hcs : v = 0 ∨ v = 1 ∨ v = 2 ∨ v = 3 ∨ v = 4 ∨ v = 5 ∨ v = 6 ∨ v = 7 := by omega
    rcases hcs with rfl | rfl | rfl | rfl | rfl | rfl | rfl | rfl
    · have h1 : bits BinOp.and IntKind.i64 0 1 = 0 := by kernel_rfl
      have h2 : bits BinOp.and IntKind.i64 0 2 = 0 := by kernel_rfl
      go_wp2_with fail
      go_meet
      case rel =>
        refine ⟨rfl, ?_, HY.out.1.alloc _, HY.out.2.1.alloc _, HY.out.2.2.alloc (by have := HY.out.2.2.size; omega) _⟩
        rw [HC.out]
        exact Blk.new' _ _ _ _ hzY.symm
    · have h1 : bits BinOp.and IntKind.i64 1 1 = 1 := by kernel_rfl
      have h2 : bits BinOp.and IntKind.i64 1 2 = 0 := by kernel_rfl
      go_wp2_with fail
      go_meet
      case rel =>
        refine ⟨rfl, ?_, HY.out.1.alloc _, HY.out.2.1.alloc _, HY.out.2.2.alloc (by have := HY.out.2.2.size; omega) _⟩
        rw [HC.out]
        exact Blk.new' _ _ _ _ hzY.symm
    · have h1 : bits BinOp.and IntKind.i64 2 1 = 0 := by kernel_rfl
      have h2 : bits BinOp.and IntKind.i64 2 2 = 2 := by kernel_rfl
      go_wp2_with fail
      go_meet
      case rel =>
        refine ⟨rfl, ?_, HY.out.1.alloc _, HY.out.2.1.alloc _, HY.out.2.2.alloc (by have := HY.out.2.2.size; omega) _⟩
        rw [HC.out]
        exact Blk.new' _ _ _ _ hzY.symm
    · have h1 : bits BinOp.and IntKind.i64 3 1 = 1 := by kernel_rfl
      have h2 : bits BinOp.and IntKind.i64 3 2 = 2 := by kernel_rfl
      go_wp2_with fail
      go_meet
      case rel =>
        refine ⟨rfl, ?_, HY.out.1.alloc _, HY.out.2.1.alloc _, HY.out.2.2.alloc (by have := HY.out.2.2.size; omega) _⟩
        rw [HC.out]
        exact Blk.new' _ _ _ _ hzY.symm
    · have h1 : bits BinOp.and IntKind.i64 4 1 = 0 := by kernel_rfl
      have h2 : bits BinOp.and IntKind.i64 4 2 = 0 := by kernel_rfl
      go_wp2_with fail
      go_meet
      case rel =>
        refine ⟨rfl, ?_, HY.out.1.alloc _, HY.out.2.1.alloc _, HY.out.2.2.alloc (by have := HY.out.2.2.size; omega) _⟩
        rw [HC.out]
        exact Blk.new' _ _ _ _ hzY.symm
    · have h1 : bits BinOp.and IntKind.i64 5 1 = 1 := by kernel_rfl
      have h2 : bits BinOp.and IntKind.i64 5 2 = 0 := by kernel_rfl
      go_wp2_with fail
      go_meet
      case rel =>
        refine ⟨rfl, ?_, HY.out.1.alloc _, HY.out.2.1.alloc _, HY.out.2.2.alloc (by have := HY.out.2.2.size; omega) _⟩
        rw [HC.out]
        exact Blk.new' _ _ _ _ hzY.symm
    · have h1 : bits BinOp.and IntKind.i64 6 1 = 0 := by kernel_rfl
      have h2 : bits BinOp.and IntKind.i64 6 2 = 2 := by kernel_rfl
      go_wp2_with fail
      go_meet
      case rel =>
        refine ⟨rfl, ?_, HY.out.1.alloc _, HY.out.2.1.alloc _, HY.out.2.2.alloc (by have := HY.out.2.2.size; omega) _⟩
        rw [HC.out]
        exact Blk.new' _ _ _ _ hzY.symm
    · have h1 : bits BinOp.and IntKind.i64 7 1 = 1 := by kernel_rfl
      have h2 : bits BinOp.and IntKind.i64 7 2 = 2 := by kernel_rfl
      go_wp2_with fail
      go_meet
      case rel =>
        refine ⟨rfl, ?_, HY.out.1.alloc _, HY.out.2.1.alloc _, HY.out.2.2.alloc (by have := HY.out.2.2.size; omega) _⟩
        rw [HC.out]
        exact Blk.new' _ _ _ _ hzY.symm
  case rest =>
    obtain ⟨rfl, hb3, hb1, hb2, hBf⟩ := hcut
    obtain ⟨V, rfl⟩ : ∃ V, V = wc := ⟨_, rfl⟩
    obtain ⟨a0, a1, a2⟩ := hb1.three
    obtain ⟨b0, b1, b2⟩ := hb2.three
    obtain ⟨d0, d1, d2⟩ := hb3.three
    have HB := hide hBf
    clear hb1 hb2 hb3 hBf
    obtain ⟨u1, hu1⟩ : ∃ u, u = B.2.2 - A.2.2 := ⟨_, rfl⟩
    obtain ⟨u2, hu2⟩ : ∃ u, u = C.1 - A.1 := ⟨_, rfl⟩
    obtain ⟨u3, hu3⟩ : ∃ u, u = B.1 - A.1 := ⟨_, rfl⟩
    obtain ⟨u4, hu4⟩ : ∃ u, u = C.2.2 - A.2.2 := ⟨_, rfl⟩
    have hm1 := mul9 (a := u1) (b := u2) (by omega) (by omega)
    have hm2 := mul9 (a := u3) (b := u4) (by omega) (by omega)
    obtain ⟨m1, hm1e⟩ : ∃ m, m = u1 * u2 := ⟨_, rfl⟩
    obtain ⟨m2, hm2e⟩ : ∃ m, m = u3 * u4 := ⟨_, rfl⟩
    rw [← hm1e] at hm1
    rw [← hm2e] at hm2
    obtain ⟨dd, hdd⟩ : ∃ d, d = m1 - m2 := ⟨_, rfl⟩
    have hdet : detJ A B v 1 = dd := by rw [HD.out.1, ← hu1, ← hu2, ← hu3, ← hu4, ← hm1e, ← hm2e, ← hdd]
    have s1 : IntKind.i64.wrap (B.2.2 - A.2.2) = u1 := by rw [hu1]; exact IntWalk.i64_in _ (by omega)
    have s2 : IntKind.i64.wrap (C.1 - A.1) = u2 := by rw [hu2]; exact IntWalk.i64_in _ (by omega)
    have s3 : IntKind.i64.wrap (B.1 - A.1) = u3 := by rw [hu3]; exact IntWalk.i64_in _ (by omega)
    have s4 : IntKind.i64.wrap (C.2.2 - A.2.2) = u4 := by rw [hu4]; exact IntWalk.i64_in _ (by omega)
    have s5 : IntKind.i64.wrap (u1 * u2) = m1 := by rw [← hm1e]; exact IntWalk.i64_in _ (by omega)
    have s6 : IntKind.i64.wrap (u3 * u4) = m2 := by rw [← hm2e]; exact IntWalk.i64_in _ (by omega)
    have s7 : IntKind.i64.wrap (m1 - m2) = dd := by rw [← hdd]; exact IntWalk.i64_in _ (by omega)
    have hr2 := HD.out.2
    rw [hdet] at hr2
    have HR := hide hr2
    clear hdet hr2 hu1 hu2 hu3 hu4 hm1e hm2e hdd
    go_upto_region 6 with fail
    go_quiet (fail)
    clear s1 s2 s3 s4 s5 s6 s7
    cases pos with
    | true =>
      by_cases hs : dd < 0
      · go_wp2
        go_ret
        exact ⟨by rw [HR.out]; simp [hs], below_drewN HB.out nq⟩
      · go_wp2
        go_ret
        exact ⟨by rw [HR.out]; simp [hs], below_drewN HB.out nq⟩
    | false =>
      by_cases hs : 0 < dd
      · go_wp2
        go_ret
        exact ⟨by rw [HR.out]; simp [hs], below_drewN HB.out nq⟩
      · go_wp2
        go_ret
        exact ⟨by rw [HR.out]; simp [hs], below_drewN HB.out nq⟩
set_option maxRecDepth 100000 in
set_option maxHeartbeats 16000000 in
theorem right_2 (p q v : Nat) (hp : p < 24) (hq : q < 24) (hv : v < 8) (pos : Bool) (w : World) :
    Calls Try.prog 95 #[.int .i64 p, .int .i64 q, .int .i64 v, .int .i64 2, .bool pos] w fun r w' => r = .returned (.bool (rightE p q v 2 pos)) ∧ Below w.heap.size w w' := by
  have hdet : detJ (placeE p) (placeE q) v 2 = ((placeE q).1 - (placeE p).1) * ((cornerP v).2.1 - (placeE p).2.1) - ((placeE q).2.1 - (placeE p).2.1) * ((cornerP v).1 - (placeE p).1) := rfl
  have hres : rightE p q v 2 pos = if pos then decide (detJ (placeE p) (placeE q) v 2 < 0) else decide (0 < detJ (placeE p) (placeE q) v 2) := rfl
  go_enter Try.func95, Try.ntmps95
  go_wp2_with fail
  refine (place_any p hp _).mono ?_
  rintro e w1 ⟨rfl, hB1⟩
  have hba := placeE_bd hp
  have hbb := placeE_bd hq
  obtain ⟨A, hA⟩ : ∃ A, A = placeE p := ⟨_, rfl⟩
  obtain ⟨B, hBe⟩ : ∃ B, B = placeE q := ⟨_, rfl⟩
  rw [← hA] at hba hdet hres ⊢
  rw [← hBe] at hbb hdet hres
  have hz1 := hB1.size
  have H1 := hide hB1
  have HE := hide (And.intro hA hBe)
  clear hB1 hA hBe
  go_wp2_with fail
  refine (place_any q hq _).mono ?_
  rintro e w2 ⟨rfl, hB2⟩
  rw [← HE.out.2]
  have hz2 := hB2.size
  have hbA := (Blk.new w1 51 #[.int .i64 A.1, .int .i64 A.2.1, .int .i64 A.2.2]).below hB2 (by simp)
  have hBw : Below w.heap.size w w2 := H1.out.trans (((Below.refl _ w1).alloc hz1 _).trans (hB2.mono (by simp; omega)))
  have hlA := hbA.lt
  have HA := hide (And.intro hbA hBw)
  clear hbA hBw hB2
  go_upto_region 3 with fail
  obtain ⟨Y, hY⟩ : ∃ Y, Y = w2.alloc (.cells #[.int .i64 B.1, .int .i64 B.2.1, .int .i64 B.2.2] 51) := ⟨_, rfl⟩
  rw [← hY]
  have hzY : Y.heap.size = w2.heap.size + 1 := by rw [hY]; simp
  have hYS : Blk Y w1.heap.size 51 #[.int .i64 A.1, .int .i64 A.2.1, .int .i64 A.2.2] ∧ Blk Y w2.heap.size 51 #[.int .i64 B.1, .int .i64 B.2.1, .int .i64 B.2.2] ∧ Below w.heap.size w Y := by
    rw [hY]; exact ⟨HA.out.1.alloc _, Blk.new _ _ _, HA.out.2.alloc HA.out.2.size _⟩
  have HY := hide hYS
  clear hYS hY
  have hbc := cornerP_bd v
  obtain ⟨C, hC⟩ : ∃ C, C = cornerP v := ⟨_, rfl⟩
  rw [← hC] at hbc hdet
  have HC := hide hC
  have HD := hide (And.intro hdet hres)
  clear hC hdet hres
  go_cut [13] (fun pv wx => pv = .pointer (some ⟨w2.heap.size + 1, 0, none⟩) ∧ Blk wx (w2.heap.size + 1) 51 #[.int .i64 C.1, .int .i64 C.2.1, .int .i64 C.2.2] ∧ Blk wx w1.heap.size 51 #[.int .i64 A.1, .int .i64 A.2.1, .int .i64 A.2.2] ∧ Blk wx w2.heap.size 51 #[.int .i64 B.1, .int .i64 B.2.1, .int .i64 B.2.2] ∧ Below w.heap.size w wx)
  case first =>
    have hcs : v = 0 ∨ v = 1 ∨ v = 2 ∨ v = 3 ∨ v = 4 ∨ v = 5 ∨ v = 6 ∨ v = 7 := by omega
    rcases hcs with rfl | rfl | rfl | rfl | rfl | rfl | rfl | rfl
    · have h1 : bits BinOp.and IntKind.i64 0 1 = 0 := by kernel_rfl
      have h2 : bits BinOp.and IntKind.i64 0 2 = 0 := by kernel_rfl
      go_wp2_with fail
      go_meet
      case rel =>
        refine ⟨rfl, ?_, HY.out.1.alloc _, HY.out.2.1.alloc _, HY.out.2.2.alloc (by have := HY.out.2.2.size; omega) _⟩
        rw [HC.out]
        exact Blk.new' _ _ _ _ hzY.symm
    · have h1 : bits BinOp.and IntKind.i64 1 1 = 1 := by kernel_rfl
      have h2 : bits BinOp.and IntKind.i64 1 2 = 0 := by kernel_rfl
      go_wp2_with fail
      go_meet
      case rel =>
        refine ⟨rfl, ?_, HY.out.1.alloc _, HY.out.2.1.alloc _, HY.out.2.2.alloc (by have := HY.out.2.2.size; omega) _⟩
        rw [HC.out]
        exact Blk.new' _ _ _ _ hzY.symm
    · have h1 : bits BinOp.and IntKind.i64 2 1 = 0 := by kernel_rfl
      have h2 : bits BinOp.and IntKind.i64 2 2 = 2 := by kernel_rfl
      go_wp2_with fail
      go_meet
      case rel =>
        refine ⟨rfl, ?_, HY.out.1.alloc _, HY.out.2.1.alloc _, HY.out.2.2.alloc (by have := HY.out.2.2.size; omega) _⟩
        rw [HC.out]
        exact Blk.new' _ _ _ _ hzY.symm
    · have h1 : bits BinOp.and IntKind.i64 3 1 = 1 := by kernel_rfl
      have h2 : bits BinOp.and IntKind.i64 3 2 = 2 := by kernel_rfl
      go_wp2_with fail
      go_meet
      case rel =>
        refine ⟨rfl, ?_, HY.out.1.alloc _, HY.out.2.1.alloc _, HY.out.2.2.alloc (by have := HY.out.2.2.size; omega) _⟩
        rw [HC.out]
        exact Blk.new' _ _ _ _ hzY.symm
    · have h1 : bits BinOp.and IntKind.i64 4 1 = 0 := by kernel_rfl
      have h2 : bits BinOp.and IntKind.i64 4 2 = 0 := by kernel_rfl
      go_wp2_with fail
      go_meet
      case rel =>
        refine ⟨rfl, ?_, HY.out.1.alloc _, HY.out.2.1.alloc _, HY.out.2.2.alloc (by have := HY.out.2.2.size; omega) _⟩
        rw [HC.out]
        exact Blk.new' _ _ _ _ hzY.symm
    · have h1 : bits BinOp.and IntKind.i64 5 1 = 1 := by kernel_rfl
      have h2 : bits BinOp.and IntKind.i64 5 2 = 0 := by kernel_rfl
      go_wp2_with fail
      go_meet
      case rel =>
        refine ⟨rfl, ?_, HY.out.1.alloc _, HY.out.2.1.alloc _, HY.out.2.2.alloc (by have := HY.out.2.2.size; omega) _⟩
        rw [HC.out]
        exact Blk.new' _ _ _ _ hzY.symm
    · have h1 : bits BinOp.and IntKind.i64 6 1 = 0 := by kernel_rfl
      have h2 : bits BinOp.and IntKind.i64 6 2 = 2 := by kernel_rfl
      go_wp2_with fail
      go_meet
      case rel =>
        refine ⟨rfl, ?_, HY.out.1.alloc _, HY.out.2.1.alloc _, HY.out.2.2.alloc (by have := HY.out.2.2.size; omega) _⟩
        rw [HC.out]
        exact Blk.new' _ _ _ _ hzY.symm
    · have h1 : bits BinOp.and IntKind.i64 7 1 = 1 := by kernel_rfl
      have h2 : bits BinOp.and IntKind.i64 7 2 = 2 := by kernel_rfl
      go_wp2_with fail
      go_meet
      case rel =>
        refine ⟨rfl, ?_, HY.out.1.alloc _, HY.out.2.1.alloc _, HY.out.2.2.alloc (by have := HY.out.2.2.size; omega) _⟩
        rw [HC.out]
        exact Blk.new' _ _ _ _ hzY.symm
  case rest =>
    obtain ⟨rfl, hb3, hb1, hb2, hBf⟩ := hcut
    obtain ⟨V, rfl⟩ : ∃ V, V = wc := ⟨_, rfl⟩
    obtain ⟨a0, a1, a2⟩ := hb1.three
    obtain ⟨b0, b1, b2⟩ := hb2.three
    obtain ⟨d0, d1, d2⟩ := hb3.three
    have HB := hide hBf
    clear hb1 hb2 hb3 hBf
    obtain ⟨u1, hu1⟩ : ∃ u, u = B.1 - A.1 := ⟨_, rfl⟩
    obtain ⟨u2, hu2⟩ : ∃ u, u = C.2.1 - A.2.1 := ⟨_, rfl⟩
    obtain ⟨u3, hu3⟩ : ∃ u, u = B.2.1 - A.2.1 := ⟨_, rfl⟩
    obtain ⟨u4, hu4⟩ : ∃ u, u = C.1 - A.1 := ⟨_, rfl⟩
    have hm1 := mul9 (a := u1) (b := u2) (by omega) (by omega)
    have hm2 := mul9 (a := u3) (b := u4) (by omega) (by omega)
    obtain ⟨m1, hm1e⟩ : ∃ m, m = u1 * u2 := ⟨_, rfl⟩
    obtain ⟨m2, hm2e⟩ : ∃ m, m = u3 * u4 := ⟨_, rfl⟩
    rw [← hm1e] at hm1
    rw [← hm2e] at hm2
    obtain ⟨dd, hdd⟩ : ∃ d, d = m1 - m2 := ⟨_, rfl⟩
    have hdet : detJ A B v 2 = dd := by rw [HD.out.1, ← hu1, ← hu2, ← hu3, ← hu4, ← hm1e, ← hm2e, ← hdd]
    have s1 : IntKind.i64.wrap (B.1 - A.1) = u1 := by rw [hu1]; exact IntWalk.i64_in _ (by omega)
    have s2 : IntKind.i64.wrap (C.2.1 - A.2.1) = u2 := by rw [hu2]; exact IntWalk.i64_in _ (by omega)
    have s3 : IntKind.i64.wrap (B.2.1 - A.2.1) = u3 := by rw [hu3]; exact IntWalk.i64_in _ (by omega)
    have s4 : IntKind.i64.wrap (C.1 - A.1) = u4 := by rw [hu4]; exact IntWalk.i64_in _ (by omega)
    have s5 : IntKind.i64.wrap (u1 * u2) = m1 := by rw [← hm1e]; exact IntWalk.i64_in _ (by omega)
    have s6 : IntKind.i64.wrap (u3 * u4) = m2 := by rw [← hm2e]; exact IntWalk.i64_in _ (by omega)
    have s7 : IntKind.i64.wrap (m1 - m2) = dd := by rw [← hdd]; exact IntWalk.i64_in _ (by omega)
    have hr2 := HD.out.2
    rw [hdet] at hr2
    have HR := hide hr2
    clear hdet hr2 hu1 hu2 hu3 hu4 hm1e hm2e hdd
    go_upto_region 6 with fail
    go_quiet (fail)
    clear s1 s2 s3 s4 s5 s6 s7
    cases pos with
    | true =>
      by_cases hs : dd < 0
      · go_wp2
        go_ret
        exact ⟨by rw [HR.out]; simp [hs], below_drewN HB.out nq⟩
      · go_wp2
        go_ret
        exact ⟨by rw [HR.out]; simp [hs], below_drewN HB.out nq⟩
    | false =>
      by_cases hs : 0 < dd
      · go_wp2
        go_ret
        exact ⟨by rw [HR.out]; simp [hs], below_drewN HB.out nq⟩
      · go_wp2
        go_ret
        exact ⟨by rw [HR.out]; simp [hs], below_drewN HB.out nq⟩
end Go.Proofs.Ytfljcgehhnmamaa
