/- SealApart: the walk (printed by mk_S9F.py). -/
import Derived.Test.YtdpgohpbannfnaaCS9E
namespace Go.Proofs.Ytdpgohpbannfnaa
open Go.RowKit Go.Sort Go.WideMaps Go.Maps
/-- All edges lie in these cells. -/
def lowL (c : Int) (es : List EF) : Prop := ∀ e ∈ es, lowE c e
theorem lowE.fits {c : Int} {e : EF} (h : lowE c e) (hc : -1000 ≤ c ∧ c ≤ 900) : fitsF e := by unfold lowE at h; unfold fitsF fitsP Proofs.Ytdpgohpbannfnaa.fits; omega
theorem eqPch_ne (p q : Pch) (hp : fitsPch p) (hq : fitsPch q) (hne : p ≠ q) (w : World) : (Op.equalIn 10000 47 (vPch p) (vPch q)).run Try.prog w = .ok false w := by
  have c : Try.prog.cellsOf 47 = 6 := by kernel_rfl
  obtain ⟨r, hr, he⟩ := run_equalIn_deep (P := Try.prog) 9997 3 47 (by kernel_rfl) w 3 3 (vPch p) (vPch q) _ _ (by simp [Value.formed, Try.underlying47, c]) (by simp [Value.formed, Try.underlying47, c]) (litsPch p hp) (litsPch q hq)
  rw [hr]
  cases r with
  | false => rfl
  | true =>
    exfalso
    have h := he.1 rfl
    simp only [List.cons.injEq, Lit.int.injEq, true_and, and_true] at h
    obtain ⟨⟨a, x, y, z⟩, d, n⟩ := p
    obtain ⟨⟨a', x', y', z'⟩, d', n'⟩ := q
    dsimp only at h
    obtain ⟨h1, h2, h3, h4, h5, h6⟩ := h
    exact hne (by rw [h1, h2, h3, h4, show d = d' by omega, show n = n' by omega])
theorem filt_two {α : Type} (q : α → Bool) : ∀ B : List α, B.length = (B.filter q).length + (B.filter fun b => !q b).length
  | [] => rfl
  | a :: B => by
    have ih := filt_two q B
    by_cases h : q a = true
    · rw [List.filter_cons_of_pos h, List.filter_cons_of_neg (by simp [h])]
      simp only [List.length_cons]
      omega
    · rw [List.filter_cons_of_neg h, List.filter_cons_of_pos (by simp [h])]
      simp only [List.length_cons]
      omega
/-- What the merge has at place j. -/
structure MrgS (B : List (Bool × Pch)) (j i k : Nat) : Prop where
  one : i = ((B.take j).filter fun b => b.1).length
  two : k = ((B.take j).filter fun b => !b.1).length
theorem MrgS.left {B : List (Bool × Pch)} {j i k : Nat} {b : Bool × Pch} (h : MrgS B j i k) (hb : B[j]? = some b) (h1 : b.1 = true) : MrgS B (j + 1) (i + 1) k := by
  refine ⟨?_, ?_⟩
  · rw [filter_step hb, if_pos h1, ← h.one]
  · rw [filter_step hb, if_neg (by simp [h1]), ← h.two]; rfl
theorem MrgS.right {B : List (Bool × Pch)} {j i k : Nat} {b : Bool × Pch} (h : MrgS B j i k) (hb : B[j]? = some b) (h1 : b.1 = false) : MrgS B (j + 1) i (k + 1) := by
  refine ⟨?_, ?_⟩
  · rw [filter_step hb, if_neg (by simp [h1]), ← h.one]; rfl
  · rw [filter_step hb, if_pos (by simp [h1]), ← h.two]
set_option maxRecDepth 100000 in
set_option maxHeartbeats 32000000 in
theorem apart7_walk (A0 : Option Addr) (c0 : Nat) (ns0 : List Int) (A1 : Option Addr) (c1 : Nat) (ns1 : List Int) (w : World) (hs0 : ns0 ≠ [] → Sl encZ 1 w w.heap.size A0 ns0) (hf0 : ∀ x ∈ ns0, fits x) (_hl0 : ns0.length ≤ 9223372036854775807) (hs1 : ns1 ≠ [] → Sl encZ 1 w w.heap.size A1 ns1) (hf1 : ∀ x ∈ ns1, fits x) (_hl1 : ns1.length ≤ 9223372036854775807) :
    Calls Try.prog 10 #[.slice A0 ns0.length c0, .slice A1 ns1.length c1] w fun e w' => e = .returned (.bool true) ∧ Below w.heap.size w w' := by
  obtain ⟨N0, hN0⟩ : ∃ N, N = ns0.length := ⟨_, rfl⟩
  obtain ⟨N1, hN1⟩ : ∃ N, N = ns1.length := ⟨_, rfl⟩
  rw [← hN0] at _hl0 ⊢
  rw [← hN1] at _hl1 ⊢
  have HA := hide (And.intro hs0 (And.intro hf0 hN0))
  have HB := hide (And.intro hs1 (And.intro hf1 hN1))
  clear hs0 hf0 hN0 hs1 hf1 hN1
  go_enter Try.func10, Try.ntmps10
  go_wp2_with fail
  refine (sanity7_any w).mono ?_
  rintro e w1 ⟨rfl, hB1⟩
  have HA1 := hide (And.intro (fun hne => (HA.out.1 hne).on hB1) (And.intro HA.out.2.1 HA.out.2.2))
  have HB1 := hide (And.intro (fun hne => (HB.out.1 hne).on hB1) (And.intro HB.out.2.1 HB.out.2.2))
  have H1 := hide hB1
  clear hB1 HA HB
  go_wp2_with fail
  go_loopw [6, 8] (fun ov iv wr => ∃ (i : Nat) (es : List EF), i ≤ N0 ∧ i ≤ 12 ∧ iv = .int .i64 i ∧ Own encF 4 44 wr w1.heap.size ov i es ∧ lowL 1 es ∧ Below w1.heap.size w1 wr) (fun _ iv _ => 12 - (intOf iv).toNat)
  case atStart => exact ⟨0, [], by omega, by omega, rfl, Own.nil, (fun e he => by cases he), Below.refl _ _⟩
  case round =>
    obtain ⟨V, rfl⟩ : ∃ V, V = wr := ⟨_, rfl⟩
    obtain ⟨i, es, hiM, hi12, rfl, hown, hes, hB⟩ := hrel
    have HV := hide (And.intro hown (And.intro hes hB))
    have hwV := HV.out.2.2.size
    clear hown hes hB
    by_cases hlt : i < N0 ∧ i < 12
    · have i1 : (i : Int) < (N0 : Int) := by omega
      have i2 : (i : Int) < 12 := by omega
      obtain ⟨a, ha⟩ : ∃ a, ns0[i]? = some a := ⟨_, List.getElem?_eq_getElem (by rw [← HA1.out.2.2]; omega)⟩
      have hne : ns0 ≠ [] := fun h => by rw [h] at ha; cases ha
      obtain ⟨tb, oo, hA, htb, g0⟩ := ((HA1.out.1 hne).below HV.out.2.2).num ha
      have hfa := HA1.out.2.1 a (List.mem_of_getElem? ha)
      subst hA
      obtain ⟨q1, hq1⟩ : ∃ q, q = a.tdiv 3 := ⟨_, rfl⟩
      obtain ⟨q2, hq2⟩ : ∃ q, q = a.tdiv 6 := ⟨_, rfl⟩
      obtain ⟨q3, hq3⟩ : ∃ q, q = a.tdiv 12 := ⟨_, rfl⟩
      have f1 : fits q1 := by rw [hq1]; exact tdiv_fits hfa (by omega)
      have f2 : fits q2 := by rw [hq2]; exact tdiv_fits hfa (by omega)
      have f3 : fits q3 := by rw [hq3]; exact tdiv_fits hfa (by omega)
      have u1 : IntKind.i64.wrap q1 = q1 := IntWalk.i64_in _ (by unfold fits at f1; omega)
      have u2 : IntKind.i64.wrap q2 = q2 := IntWalk.i64_in _ (by unfold fits at f2; omega)
      have u3 : IntKind.i64.wrap q3 = q3 := IntWalk.i64_in _ (by unfold fits at f3; omega)
      have v1 : a.tdiv 3 = q1 := hq1.symm
      have v2 : a.tdiv 6 = q2 := hq2.symm
      have v3 : a.tdiv 12 = q3 := hq3.symm
      have m0 := mod_any a 3 (by omega) (by omega)
      have m1 := mod_any q1 2 (by omega) (by omega)
      have m2 := mod_any q2 2 (by omega) (by omega)
      have m3 := mod_any q3 2 (by omega) (by omega)
      have b0 := modC_bound a 3 (by omega)
      have b1 := modC_bound q1 2 (by omega)
      have b2 := modC_bound q2 2 (by omega)
      have b3 := modC_bound q3 2 (by omega)
      obtain ⟨x0, hx0⟩ : ∃ x, x = modC a 3 := ⟨_, rfl⟩
      obtain ⟨x1, hx1⟩ : ∃ x, x = modC q1 2 := ⟨_, rfl⟩
      obtain ⟨x2, hx2⟩ : ∃ x, x = modC q2 2 := ⟨_, rfl⟩
      obtain ⟨x3, hx3⟩ : ∃ x, x = modC q3 2 := ⟨_, rfl⟩
      rw [← hx0] at m0 b0
      rw [← hx1] at m1 b1
      rw [← hx2] at m2 b2
      rw [← hx3] at m3 b3
      have y1 : IntKind.i64.wrap (1 + x1) = 1 + x1 := IntWalk.i64_in _ (by omega)
      have y2 : IntKind.i64.wrap (1 + x2) = 1 + x2 := IntWalk.i64_in _ (by omega)
      have y3 : IntKind.i64.wrap (1 + x3) = 1 + x3 := IntWalk.i64_in _ (by omega)
      have HM := hide (And.intro m0 (And.intro m1 (And.intro m2 m3)))
      have HBd := hide (And.intro b0 (And.intro b1 (And.intro b2 b3)))
      have g0 : V.drew.cell? ⟨tb, oo + i, none⟩ = some (.int .i64 a) := g0
      clear m0 m1 m2 m3 b0 b1 b2 b3 hx0 hx1 hx2 hx3 hq1 hq2 hq3 f1 f2 f3 hfa hne ha
      go_upto_region 7 with fail
      refine wp_region_mix (fun W => W.cell? ⟨tb, oo + i, none⟩ = some (.int .i64 a)) [0, 1, 2, 3, 4, 6, 7, 8, 9, 10, 13, 14, 15, 16, 17, 20, 21, 22, 23, 24, 12, 19] [0, 1, 2, 3, 4, 6, 7, 8, 9, 10, 13, 14, 15, 16, 17, 20, 21, 22, 23, 24, 5, 11, 12, 18, 19, 25, 26, 27, 28, 29, 30] mixed_ok (by kernel_rfl) ?_
      refine wpMix_q (v := u6) rfl rfl (fun _ _ _ h => h) g0 ⟨rfl, fun _ _ => by simp [go_sem]⟩ ?_
      refine wpMix_q (v := .slice (some ⟨tb, oo, none⟩) N0 c0) rfl rfl (fun _ _ _ h => h) g0 ⟨rfl, fun _ _ => by simp [go_sem]⟩ ?_
      refine wpMix_q (v := .int .i64 i) rfl rfl (fun _ _ _ h => h) g0 ⟨rfl, fun _ _ => by simp [go_sem]⟩ ?_
      refine wpMix_q (v := .pointer (some ⟨tb, oo + i, none⟩)) rfl rfl (fun _ _ _ h => h) g0 ⟨rfl, fun _ _ => by simp [go_sem, i1]⟩ ?_
      refine wpMix_q (v := .int .i64 a) rfl rfl (fun _ _ _ h => h) g0 ⟨rfl, fun _ h' => by simp [go_sem, h']⟩ ?_
      try simp only [List.getElem_toArray, List.getElem_cons_succ, List.getElem_cons_zero, Act.put, List.setIfInBounds_toArray, List.set_cons_succ, List.set_cons_zero]
      refine wpMix_q (v := .slice (some ⟨tb, oo, none⟩) N0 c0) rfl rfl (fun _ _ _ h => h) g0 ⟨rfl, fun _ _ => by simp [go_sem]⟩ ?_
      refine wpMix_q (v := .int .i64 i) rfl rfl (fun _ _ _ h => h) g0 ⟨rfl, fun _ _ => by simp [go_sem]⟩ ?_
      refine wpMix_q (v := .pointer (some ⟨tb, oo + i, none⟩)) rfl rfl (fun _ _ _ h => h) g0 ⟨rfl, fun _ _ => by simp [go_sem, i1]⟩ ?_
      refine wpMix_q (v := .int .i64 a) rfl rfl (fun _ _ _ h => h) g0 ⟨rfl, fun _ h' => by simp [go_sem, h']⟩ ?_
      refine wpMix_q (v := .int .i64 q1) rfl rfl (fun _ _ _ h => h) g0 ⟨rfl, fun _ _ => by simp [go_sem, v1, u1]⟩ ?_
      try simp only [List.getElem_toArray, List.getElem_cons_succ, List.getElem_cons_zero, Act.put, List.setIfInBounds_toArray, List.set_cons_succ, List.set_cons_zero]
      refine wpMix_q (v := .slice (some ⟨tb, oo, none⟩) N0 c0) rfl rfl (fun _ _ _ h => h) g0 ⟨rfl, fun _ _ => by simp [go_sem]⟩ ?_
      refine wpMix_q (v := .int .i64 i) rfl rfl (fun _ _ _ h => h) g0 ⟨rfl, fun _ _ => by simp [go_sem]⟩ ?_
      refine wpMix_q (v := .pointer (some ⟨tb, oo + i, none⟩)) rfl rfl (fun _ _ _ h => h) g0 ⟨rfl, fun _ _ => by simp [go_sem, i1]⟩ ?_
      refine wpMix_q (v := .int .i64 a) rfl rfl (fun _ _ _ h => h) g0 ⟨rfl, fun _ h' => by simp [go_sem, h']⟩ ?_
      refine wpMix_q (v := .int .i64 q2) rfl rfl (fun _ _ _ h => h) g0 ⟨rfl, fun _ _ => by simp [go_sem, v2, u2]⟩ ?_
      try simp only [List.getElem_toArray, List.getElem_cons_succ, List.getElem_cons_zero, Act.put, List.setIfInBounds_toArray, List.set_cons_succ, List.set_cons_zero]
      refine wpMix_q (v := .slice (some ⟨tb, oo, none⟩) N0 c0) rfl rfl (fun _ _ _ h => h) g0 ⟨rfl, fun _ _ => by simp [go_sem]⟩ ?_
      refine wpMix_q (v := .int .i64 i) rfl rfl (fun _ _ _ h => h) g0 ⟨rfl, fun _ _ => by simp [go_sem]⟩ ?_
      refine wpMix_q (v := .pointer (some ⟨tb, oo + i, none⟩)) rfl rfl (fun _ _ _ h => h) g0 ⟨rfl, fun _ _ => by simp [go_sem, i1]⟩ ?_
      refine wpMix_q (v := .int .i64 a) rfl rfl (fun _ _ _ h => h) g0 ⟨rfl, fun _ h' => by simp [go_sem, h']⟩ ?_
      refine wpMix_q (v := .int .i64 q3) rfl rfl (fun _ _ _ h => h) g0 ⟨rfl, fun _ _ => by simp [go_sem, v3, u3]⟩ ?_
      try simp only [List.getElem_toArray, List.getElem_cons_succ, List.getElem_cons_zero, Act.put, List.setIfInBounds_toArray, List.set_cons_succ, List.set_cons_zero]
      refine wpMix_n rfl rfl ?_
      go_wp2_with fail
      refine (HM.out.1 _).mono ?_
      rintro e W7 ⟨rfl, hw7⟩
      obtain rfl : V.drew = W7 := hw7.symm
      go_wp2_with fail
      refine ⟨fun _ => g0, ?_⟩
      refine wpMix_n rfl rfl ?_
      go_wp2_with fail
      refine (HM.out.2.1 _).mono ?_
      rintro e W7 ⟨rfl, hw7⟩
      obtain rfl : V.drew = W7 := hw7.symm
      go_wp2_with fail
      refine ⟨fun _ => g0, ?_⟩
      try simp only [List.getElem_toArray, List.getElem_cons_succ, List.getElem_cons_zero, Act.put, List.setIfInBounds_toArray, List.set_cons_succ, List.set_cons_zero]
      try simp only [List.getElem_toArray, List.getElem_cons_succ, List.getElem_cons_zero, Act.put, List.setIfInBounds_toArray, List.set_cons_succ, List.set_cons_zero]
      refine wpMix_q (v := .int .i64 (1 + x1)) rfl rfl (fun _ _ _ h => h) g0 ⟨rfl, fun _ _ => by simp [go_sem, y1]⟩ ?_
      refine wpMix_n rfl rfl ?_
      go_wp2_with fail
      refine (HM.out.2.2.1 _).mono ?_
      rintro e W7 ⟨rfl, hw7⟩
      obtain rfl : V.drew = W7 := hw7.symm
      go_wp2_with fail
      refine ⟨fun _ => g0, ?_⟩
      try simp only [List.getElem_toArray, List.getElem_cons_succ, List.getElem_cons_zero, Act.put, List.setIfInBounds_toArray, List.set_cons_succ, List.set_cons_zero]
      refine wpMix_q (v := .int .i64 (1 + x2)) rfl rfl (fun _ _ _ h => h) g0 ⟨rfl, fun _ _ => by simp [go_sem, y2]⟩ ?_
      refine wpMix_n rfl rfl ?_
      go_wp2_with fail
      refine (HM.out.2.2.2 _).mono ?_
      rintro e W7 ⟨rfl, hw7⟩
      obtain rfl : V.drew = W7 := hw7.symm
      go_wp2_with fail
      refine ⟨fun _ => g0, ?_⟩
      refine wpMix_n rfl rfl ?_
      go_wp2_with fail
      refine ⟨fun _ => g0, ?_⟩
      refine wpMix_n rfl rfl ?_
      go_wp2_with fail
      refine ⟨fun _ => g0, ?_⟩
      refine wpMix_n rfl rfl ?_
      go_wp2_with fail
      refine ⟨fun _ => ((Below.refl V.drew.heap.size V.drew).alloc (Nat.le_refl _) _).cell (p := ⟨tb, oo + i, none⟩) (by simp; omega) |>.trans g0, ?_⟩
      refine wpMix_tail _ [_, _] (by kernel_rfl) rfl ?_
      simp only [List.getElem_toArray, List.getElem_cons_succ, List.getElem_cons_zero]
      go_wp2_with (at_builtin; refine wpList_append1 rfl _ _ _ rfl Try.underlying25 infoEd rfl (by omega) encF_len encF_one rfl ((HV.out.1.below (Below.refl V.heap.size V).drew (Nat.le_refl _)).alloc _) V.heap.size 1 (x0, (1 + x1, 1 + x2, 1 + x3)) rfl (Blk.new _ _ _) (by unfold maxLen; omega) (by omega) (by simp; omega) ?_; intro gp cap U ho7 hg7 hB7 hat7 hgb7 hlt7)
      refine ⟨⟨i + 1, es ++ [(x0, (1 + x1, 1 + x2, 1 + x3))], by omega, by omega, by go_num, ho7, ?_, HV.out.2.2.trans ((((Below.refl w1.heap.size V).drew).alloc (by simp; omega) _).trans hB7)⟩, by simp [intOf]; omega⟩
      intro e he
      rcases List.mem_append.1 he with he | he
      · exact HV.out.2.1 e he
      · rw [List.mem_singleton.1 he]
        have hb := HBd.out
        unfold lowE
        dsimp only
        omega
    · go_upto_region 5 with fail
      go_cut [27] (fun v wx => v = .bool false ∧ wx = V)
      case first =>
        by_cases h1 : i < N0
        · have i1 : (i : Int) < (N0 : Int) := by omega
          have i2 : ¬ (i : Int) < 12 := by omega
          go_wp2_with fail
          go_meet
          case rel => exact ⟨rfl, rfl⟩
        · have i1 : ¬ (i : Int) < (N0 : Int) := by omega
          go_wp2_with fail
          go_meet
          case rel => exact ⟨rfl, rfl⟩
      case rest =>
      obtain ⟨rfl, hwc⟩ := hcut
      obtain rfl : V = wc := hwc.symm
      obtain ⟨Ax, cx, rfl⟩ := HV.out.1.form
      obtain ⟨w2, rfl⟩ : ∃ w2, w2 = V := ⟨_, rfl⟩
      obtain ⟨nx, rfl⟩ : ∃ nx, nx = i := ⟨_, rfl⟩
      obtain ⟨xs, rfl⟩ : ∃ xs, xs = es := ⟨_, rfl⟩
      have HX := hide (And.intro (HV.out.1.sl encF_len (Nat.le_refl _)) (And.intro HV.out.2.1 (And.intro HV.out.1.1 (H1.out.trans (HV.out.2.2.mono H1.out.size)))))
      have HB2 := hide (And.intro (fun hne => (HB1.out.1 hne).on HV.out.2.2) (And.intro HB1.out.2.1 HB1.out.2.2))
      have hnx12 : nx ≤ 12 := hi12
      clear hiM hi12 hlt HV HA1 HB1 hwV hwc H1
      go_wp2_with fail
      go_loopw [7, 9] (fun ov iv wr => ∃ (i : Nat) (es : List EF), i ≤ N1 ∧ i ≤ 12 ∧ iv = .int .i64 i ∧ Own encF 4 44 wr w2.heap.size ov i es ∧ lowL 5 es ∧ Below w2.heap.size w2 wr) (fun _ iv _ => 12 - (intOf iv).toNat)
      case atStart => exact ⟨0, [], by omega, by omega, rfl, Own.nil, (fun e he => by cases he), Below.refl _ _⟩
      case round =>
        obtain ⟨V, rfl⟩ : ∃ V, V = wr := ⟨_, rfl⟩
        obtain ⟨i, es, hiM, hi12, rfl, hown, hes, hB⟩ := hrel
        have HV := hide (And.intro hown (And.intro hes hB))
        have hwV := HV.out.2.2.size
        clear hown hes hB
        by_cases hlt : i < N1 ∧ i < 12
        · have i1 : (i : Int) < (N1 : Int) := by omega
          have i2 : (i : Int) < 12 := by omega
          obtain ⟨a, ha⟩ : ∃ a, ns1[i]? = some a := ⟨_, List.getElem?_eq_getElem (by rw [← HB2.out.2.2]; omega)⟩
          have hne : ns1 ≠ [] := fun h => by rw [h] at ha; cases ha
          obtain ⟨tb, oo, hA, htb, g0⟩ := ((HB2.out.1 hne).below HV.out.2.2).num ha
          have hfa := HB2.out.2.1 a (List.mem_of_getElem? ha)
          subst hA
          obtain ⟨q1, hq1⟩ : ∃ q, q = a.tdiv 3 := ⟨_, rfl⟩
          obtain ⟨q2, hq2⟩ : ∃ q, q = a.tdiv 6 := ⟨_, rfl⟩
          obtain ⟨q3, hq3⟩ : ∃ q, q = a.tdiv 12 := ⟨_, rfl⟩
          have f1 : fits q1 := by rw [hq1]; exact tdiv_fits hfa (by omega)
          have f2 : fits q2 := by rw [hq2]; exact tdiv_fits hfa (by omega)
          have f3 : fits q3 := by rw [hq3]; exact tdiv_fits hfa (by omega)
          have u1 : IntKind.i64.wrap q1 = q1 := IntWalk.i64_in _ (by unfold fits at f1; omega)
          have u2 : IntKind.i64.wrap q2 = q2 := IntWalk.i64_in _ (by unfold fits at f2; omega)
          have u3 : IntKind.i64.wrap q3 = q3 := IntWalk.i64_in _ (by unfold fits at f3; omega)
          have v1 : a.tdiv 3 = q1 := hq1.symm
          have v2 : a.tdiv 6 = q2 := hq2.symm
          have v3 : a.tdiv 12 = q3 := hq3.symm
          have m0 := mod_any a 3 (by omega) (by omega)
          have m1 := mod_any q1 2 (by omega) (by omega)
          have m2 := mod_any q2 2 (by omega) (by omega)
          have m3 := mod_any q3 2 (by omega) (by omega)
          have b0 := modC_bound a 3 (by omega)
          have b1 := modC_bound q1 2 (by omega)
          have b2 := modC_bound q2 2 (by omega)
          have b3 := modC_bound q3 2 (by omega)
          obtain ⟨x0, hx0⟩ : ∃ x, x = modC a 3 := ⟨_, rfl⟩
          obtain ⟨x1, hx1⟩ : ∃ x, x = modC q1 2 := ⟨_, rfl⟩
          obtain ⟨x2, hx2⟩ : ∃ x, x = modC q2 2 := ⟨_, rfl⟩
          obtain ⟨x3, hx3⟩ : ∃ x, x = modC q3 2 := ⟨_, rfl⟩
          rw [← hx0] at m0 b0
          rw [← hx1] at m1 b1
          rw [← hx2] at m2 b2
          rw [← hx3] at m3 b3
          have y1 : IntKind.i64.wrap (5 + x1) = 5 + x1 := IntWalk.i64_in _ (by omega)
          have y2 : IntKind.i64.wrap (5 + x2) = 5 + x2 := IntWalk.i64_in _ (by omega)
          have y3 : IntKind.i64.wrap (5 + x3) = 5 + x3 := IntWalk.i64_in _ (by omega)
          have HM := hide (And.intro m0 (And.intro m1 (And.intro m2 m3)))
          have HBd := hide (And.intro b0 (And.intro b1 (And.intro b2 b3)))
          have g0 : V.drew.cell? ⟨tb, oo + i, none⟩ = some (.int .i64 a) := g0
          clear m0 m1 m2 m3 b0 b1 b2 b3 hx0 hx1 hx2 hx3 hq1 hq2 hq3 f1 f2 f3 hfa hne ha
          go_upto_region 11 with fail
          refine wp_region_mix (fun W => W.cell? ⟨tb, oo + i, none⟩ = some (.int .i64 a)) [0, 1, 2, 3, 4, 6, 7, 8, 9, 10, 13, 14, 15, 16, 17, 20, 21, 22, 23, 24, 12, 19] [0, 1, 2, 3, 4, 6, 7, 8, 9, 10, 13, 14, 15, 16, 17, 20, 21, 22, 23, 24, 5, 11, 12, 18, 19, 25, 26, 27, 28, 29, 30] mixed_ok (by kernel_rfl) ?_
          refine wpMix_q (v := u7) rfl rfl (fun _ _ _ h => h) g0 ⟨rfl, fun _ _ => by simp [go_sem]⟩ ?_
          refine wpMix_q (v := .slice (some ⟨tb, oo, none⟩) N1 c1) rfl rfl (fun _ _ _ h => h) g0 ⟨rfl, fun _ _ => by simp [go_sem]⟩ ?_
          refine wpMix_q (v := .int .i64 i) rfl rfl (fun _ _ _ h => h) g0 ⟨rfl, fun _ _ => by simp [go_sem]⟩ ?_
          refine wpMix_q (v := .pointer (some ⟨tb, oo + i, none⟩)) rfl rfl (fun _ _ _ h => h) g0 ⟨rfl, fun _ _ => by simp [go_sem, i1]⟩ ?_
          refine wpMix_q (v := .int .i64 a) rfl rfl (fun _ _ _ h => h) g0 ⟨rfl, fun _ h' => by simp [go_sem, h']⟩ ?_
          try simp only [List.getElem_toArray, List.getElem_cons_succ, List.getElem_cons_zero, Act.put, List.setIfInBounds_toArray, List.set_cons_succ, List.set_cons_zero]
          refine wpMix_q (v := .slice (some ⟨tb, oo, none⟩) N1 c1) rfl rfl (fun _ _ _ h => h) g0 ⟨rfl, fun _ _ => by simp [go_sem]⟩ ?_
          refine wpMix_q (v := .int .i64 i) rfl rfl (fun _ _ _ h => h) g0 ⟨rfl, fun _ _ => by simp [go_sem]⟩ ?_
          refine wpMix_q (v := .pointer (some ⟨tb, oo + i, none⟩)) rfl rfl (fun _ _ _ h => h) g0 ⟨rfl, fun _ _ => by simp [go_sem, i1]⟩ ?_
          refine wpMix_q (v := .int .i64 a) rfl rfl (fun _ _ _ h => h) g0 ⟨rfl, fun _ h' => by simp [go_sem, h']⟩ ?_
          refine wpMix_q (v := .int .i64 q1) rfl rfl (fun _ _ _ h => h) g0 ⟨rfl, fun _ _ => by simp [go_sem, v1, u1]⟩ ?_
          try simp only [List.getElem_toArray, List.getElem_cons_succ, List.getElem_cons_zero, Act.put, List.setIfInBounds_toArray, List.set_cons_succ, List.set_cons_zero]
          refine wpMix_q (v := .slice (some ⟨tb, oo, none⟩) N1 c1) rfl rfl (fun _ _ _ h => h) g0 ⟨rfl, fun _ _ => by simp [go_sem]⟩ ?_
          refine wpMix_q (v := .int .i64 i) rfl rfl (fun _ _ _ h => h) g0 ⟨rfl, fun _ _ => by simp [go_sem]⟩ ?_
          refine wpMix_q (v := .pointer (some ⟨tb, oo + i, none⟩)) rfl rfl (fun _ _ _ h => h) g0 ⟨rfl, fun _ _ => by simp [go_sem, i1]⟩ ?_
          refine wpMix_q (v := .int .i64 a) rfl rfl (fun _ _ _ h => h) g0 ⟨rfl, fun _ h' => by simp [go_sem, h']⟩ ?_
          refine wpMix_q (v := .int .i64 q2) rfl rfl (fun _ _ _ h => h) g0 ⟨rfl, fun _ _ => by simp [go_sem, v2, u2]⟩ ?_
          try simp only [List.getElem_toArray, List.getElem_cons_succ, List.getElem_cons_zero, Act.put, List.setIfInBounds_toArray, List.set_cons_succ, List.set_cons_zero]
          refine wpMix_q (v := .slice (some ⟨tb, oo, none⟩) N1 c1) rfl rfl (fun _ _ _ h => h) g0 ⟨rfl, fun _ _ => by simp [go_sem]⟩ ?_
          refine wpMix_q (v := .int .i64 i) rfl rfl (fun _ _ _ h => h) g0 ⟨rfl, fun _ _ => by simp [go_sem]⟩ ?_
          refine wpMix_q (v := .pointer (some ⟨tb, oo + i, none⟩)) rfl rfl (fun _ _ _ h => h) g0 ⟨rfl, fun _ _ => by simp [go_sem, i1]⟩ ?_
          refine wpMix_q (v := .int .i64 a) rfl rfl (fun _ _ _ h => h) g0 ⟨rfl, fun _ h' => by simp [go_sem, h']⟩ ?_
          refine wpMix_q (v := .int .i64 q3) rfl rfl (fun _ _ _ h => h) g0 ⟨rfl, fun _ _ => by simp [go_sem, v3, u3]⟩ ?_
          try simp only [List.getElem_toArray, List.getElem_cons_succ, List.getElem_cons_zero, Act.put, List.setIfInBounds_toArray, List.set_cons_succ, List.set_cons_zero]
          refine wpMix_n rfl rfl ?_
          go_wp2_with fail
          refine (HM.out.1 _).mono ?_
          rintro e W7 ⟨rfl, hw7⟩
          obtain rfl : V.drew = W7 := hw7.symm
          go_wp2_with fail
          refine ⟨fun _ => g0, ?_⟩
          refine wpMix_n rfl rfl ?_
          go_wp2_with fail
          refine (HM.out.2.1 _).mono ?_
          rintro e W7 ⟨rfl, hw7⟩
          obtain rfl : V.drew = W7 := hw7.symm
          go_wp2_with fail
          refine ⟨fun _ => g0, ?_⟩
          try simp only [List.getElem_toArray, List.getElem_cons_succ, List.getElem_cons_zero, Act.put, List.setIfInBounds_toArray, List.set_cons_succ, List.set_cons_zero]
          try simp only [List.getElem_toArray, List.getElem_cons_succ, List.getElem_cons_zero, Act.put, List.setIfInBounds_toArray, List.set_cons_succ, List.set_cons_zero]
          refine wpMix_q (v := .int .i64 (5 + x1)) rfl rfl (fun _ _ _ h => h) g0 ⟨rfl, fun _ _ => by simp [go_sem, y1]⟩ ?_
          refine wpMix_n rfl rfl ?_
          go_wp2_with fail
          refine (HM.out.2.2.1 _).mono ?_
          rintro e W7 ⟨rfl, hw7⟩
          obtain rfl : V.drew = W7 := hw7.symm
          go_wp2_with fail
          refine ⟨fun _ => g0, ?_⟩
          try simp only [List.getElem_toArray, List.getElem_cons_succ, List.getElem_cons_zero, Act.put, List.setIfInBounds_toArray, List.set_cons_succ, List.set_cons_zero]
          refine wpMix_q (v := .int .i64 (5 + x2)) rfl rfl (fun _ _ _ h => h) g0 ⟨rfl, fun _ _ => by simp [go_sem, y2]⟩ ?_
          refine wpMix_n rfl rfl ?_
          go_wp2_with fail
          refine (HM.out.2.2.2 _).mono ?_
          rintro e W7 ⟨rfl, hw7⟩
          obtain rfl : V.drew = W7 := hw7.symm
          go_wp2_with fail
          refine ⟨fun _ => g0, ?_⟩
          refine wpMix_n rfl rfl ?_
          go_wp2_with fail
          refine ⟨fun _ => g0, ?_⟩
          refine wpMix_n rfl rfl ?_
          go_wp2_with fail
          refine ⟨fun _ => g0, ?_⟩
          refine wpMix_n rfl rfl ?_
          go_wp2_with fail
          refine ⟨fun _ => ((Below.refl V.drew.heap.size V.drew).alloc (Nat.le_refl _) _).cell (p := ⟨tb, oo + i, none⟩) (by simp; omega) |>.trans g0, ?_⟩
          refine wpMix_tail _ [_, _] (by kernel_rfl) rfl ?_
          simp only [List.getElem_toArray, List.getElem_cons_succ, List.getElem_cons_zero]
          go_wp2_with (at_builtin; refine wpList_append1 rfl _ _ _ rfl Try.underlying25 infoEd rfl (by omega) encF_len encF_one rfl ((HV.out.1.below (Below.refl V.heap.size V).drew (Nat.le_refl _)).alloc _) V.heap.size 1 (x0, (5 + x1, 5 + x2, 5 + x3)) rfl (Blk.new _ _ _) (by unfold maxLen; omega) (by omega) (by simp; omega) ?_; intro gp cap U ho7 hg7 hB7 hat7 hgb7 hlt7)
          refine ⟨⟨i + 1, es ++ [(x0, (5 + x1, 5 + x2, 5 + x3))], by omega, by omega, by go_num, ho7, ?_, HV.out.2.2.trans ((((Below.refl w2.heap.size V).drew).alloc (by simp; omega) _).trans hB7)⟩, by simp [intOf]; omega⟩
          intro e he
          rcases List.mem_append.1 he with he | he
          · exact HV.out.2.1 e he
          · rw [List.mem_singleton.1 he]
            have hb := HBd.out
            unfold lowE
            dsimp only
            omega
        · go_upto_region 9 with fail
          go_cut [67] (fun v wx => v = .bool false ∧ wx = V)
          case first =>
            by_cases h1 : i < N1
            · have i1 : (i : Int) < (N1 : Int) := by omega
              have i2 : ¬ (i : Int) < 12 := by omega
              go_wp2_with fail
              go_meet
              case rel => exact ⟨rfl, rfl⟩
            · have i1 : ¬ (i : Int) < (N1 : Int) := by omega
              go_wp2_with fail
              go_meet
              case rel => exact ⟨rfl, rfl⟩
          case rest =>
          obtain ⟨rfl, hwc⟩ := hcut
          obtain rfl : V = wc := hwc.symm
          obtain ⟨Ay, cy, rfl⟩ := HV.out.1.form
          obtain ⟨T, rfl⟩ : ∃ T, T = V := ⟨_, rfl⟩
          obtain ⟨ny, rfl⟩ : ∃ ny, ny = i := ⟨_, rfl⟩
          obtain ⟨ys, rfl⟩ : ∃ ys, ys = es := ⟨_, rfl⟩
          have HY := hide (And.intro (HV.out.1.sl encF_len (Nat.le_refl _)) (And.intro HV.out.2.1 (And.intro HV.out.1.1 (And.intro (HX.out.1.on HV.out.2.2) (HX.out.2.2.2.trans (HV.out.2.2.mono HX.out.2.2.2.size))))))
          have hny12 : ny ≤ 12 := hi12
          clear hiM hi12 hlt HV HB2 hwV hwc
          obtain ⟨B, hB0, hB1, hB2, hB3⟩ := seal_apart (n := 8) HX.out.2.1 HY.out.2.1
          obtain ⟨px, hpx⟩ : ∃ p, p = pchsP 8 xs := ⟨_, rfl⟩
          obtain ⟨py, hpy⟩ : ∃ p, p = pchsP 8 ys := ⟨_, rfl⟩
          obtain ⟨pr, hpr⟩ : ∃ p, p = pchsP 8 (xs ++ ys) := ⟨_, rfl⟩
          obtain ⟨qx, hqx⟩ : ∃ q, q = px.length := ⟨_, rfl⟩
          obtain ⟨qy, hqy⟩ : ∃ q, q = py.length := ⟨_, rfl⟩
          obtain ⟨qr, hqr⟩ : ∃ q, q = pr.length := ⟨_, rfl⟩
          have hsum : qx + qy = qr := by
            rw [hqx, hqy, hqr, hpx, hpy, hpr, hB0, hB1, hB2, List.length_map, List.length_map, List.length_map]
            exact (filt_two _ B).symm
          have hfx : ∀ e ∈ xs, fitsF e := fun e he => (HX.out.2.1 e he).fits (by omega)
          have hfy : ∀ e ∈ ys, fitsF e := fun e he => (HY.out.2.1 e he).fits (by omega)
          have hfr : ∀ e ∈ xs ++ ys, fitsF e := fun e he => (List.mem_append.1 he).elim (hfx e) (hfy e)
          have hpf : ∀ b ∈ B, fitsPch b.2 := fun b hb => pchs_fit (n := 8) (by omega) (xs ++ ys) b.2 (by rw [hB0]; exact List.mem_map_of_mem hb)
          have HP := hide (And.intro hpx (And.intro hpy (And.intro hpr (And.intro hqx (And.intro hqy hqr)))))
          have HQ := hide (And.intro hB0 (And.intro hB1 (And.intro hB2 (And.intro hB3 (And.intro hpf hsum)))))
          have HFt := hide (And.intro hfx (And.intro hfy hfr))
          clear hpx hpy hpr hqx hqy hqr hB0 hB1 hB2 hB3 hsum hpf hfx hfy hfr
          go_wp2_with fail
          refine (Seal7_as (L := 3) (n := 8) (m := 729) (k := nx) (q := qx) (l := xs) (F := fldP 8 xs) (ps := px) (Lz := 3) (by omega) (by omega) rfl rfl rfl HX.out.2.2.1 rfl HP.out.1.symm HP.out.2.2.2.1 (by omega) HFt.out.1 Ax cx T HY.out.2.2.2.1).mono ?_
          rintro e w4 ⟨gi, A4, c4, rfl, _, _, ho4, hB4⟩
          have H4 := hide (And.intro ho4 hB4)
          clear ho4 hB4
          go_upto_region 13 with fail
          obtain ⟨X1, hX1⟩ : ∃ X, X = w4.alloc (.cells #[.int .i64 3, .slice (some ⟨gi, 0, none⟩) 729 729] 32) := ⟨_, rfl⟩
          rw [← hX1]
          obtain ⟨hb, hB⟩ := box7 hX1
          have hB4 := H4.out.2.trans (hB.mono H4.out.2.size)
          have K1 := hide (And.intro ((H4.out.1.below hB (Nat.le_refl _)).sl encPch_len (Nat.le_refl _)) (And.intro (HY.out.2.2.2.1.on hB4) (And.intro (HY.out.1.on hB4) (HY.out.2.2.2.2.trans (hB4.mono HY.out.2.2.2.2.size)))))
          clear hb hB hB4 hX1
          go_wp2_with fail
          refine (Seal7_as (L := 3) (n := 8) (m := 729) (k := ny) (q := qy) (l := ys) (F := fldP 8 ys) (ps := py) (Lz := 3) (by omega) (by omega) rfl rfl rfl HY.out.2.2.1 rfl HP.out.2.1.symm HP.out.2.2.2.2.1 (by omega) HFt.out.2.1 Ay cy X1 K1.out.2.2.1).mono ?_
          rintro e w5 ⟨gj, A5, c5, rfl, _, _, ho5, hB5⟩
          have H5 := hide (And.intro ho5 hB5)
          clear ho5 hB5
          go_upto_region 14 with fail
          obtain ⟨X2, hX2⟩ : ∃ X, X = w5.alloc (.cells #[.int .i64 3, .slice (some ⟨gj, 0, none⟩) 729 729] 32) := ⟨_, rfl⟩
          rw [← hX2]
          obtain ⟨hb, hB⟩ := box7 hX2
          have hB5 := H5.out.2.trans (hB.mono H5.out.2.size)
          have K2 := hide (And.intro ((H5.out.1.below hB (Nat.le_refl _)).sl encPch_len (Nat.le_refl _)) (And.intro (K1.out.1.on hB5) (And.intro (K1.out.2.1.on hB5) (And.intro (K1.out.2.2.1.on hB5) (K1.out.2.2.2.trans (hB5.mono K1.out.2.2.2.size))))))
          clear hb hB hB5 hX2
          have hE : Below X2.heap.size X2 (X2.alloc (.cells #[] 44)) := (Below.refl _ X2).alloc (Nat.le_refl _) _
          have hsx := K2.out.2.2.1.below hE
          have HE := hide hE
          have HSX := hide hsx
          have hlx : xs.length ≤ 12 := by rw [← HX.out.2.2.1]; exact hnx12
          have hly : ys.length ≤ 12 := by rw [← HY.out.2.2.1]; exact hny12
          have HLL := hide (And.intro hlx hly)
          clear hE hsx hlx hly
          go_wp2_with (at_builtin; first | ((refine wpList_appendS (n := n7) rfl _ _ _ rfl Try.underlying25 infoEd rfl (by omega) encF_len encF_one rfl ho7 Ay cy X2.heap.size ys (by rw [← HY.out.2.2.1]; rfl) (K2.out.2.2.2.1.below hW7) (by rw [HN7.out]; have := HLL.out; unfold maxLen; omega) (by rw [HN7.out]; have := HLL.out; omega) hW7.size ?_; intro v8 U8 ho8 hg8 hB8 hat8; obtain ⟨n8, hn8⟩ : ∃ n8, n8 = n7 + ys.length := ⟨_, rfl⟩; rw [← hn8] at ho8; have HN8 := hide hn8; clear hn8; obtain ⟨A8, c8, rfl⟩ := ho8.form)) | (refine wpList_appendS rfl _ _ _ rfl Try.underlying25 infoEd rfl (by omega) encF_len encF_one rfl (own_lit7 (enc := encF) (xs := []) (n := 0) encF_len (Nat.le_refl _) rfl (by omega)) Ax cx X2.heap.size xs (by rw [← HX.out.2.2.1]; rfl) HSX.out (by have := HLL.out; unfold maxLen; omega) (by have := HLL.out; omega) HE.out.size ?_; intro v7 U7 ho7 hg7 hB7 hat7; obtain ⟨n7, hn7⟩ : ∃ n7, n7 = 0 + xs.length := ⟨_, rfl⟩; rw [← hn7] at ho7; have HN7 := hide hn7; clear hn7; obtain ⟨A7, c7, rfl⟩ := ho7.form; have hW7 := HE.out.trans hB7))
          have ho8' : Own encF 4 44 U8 X2.heap.size (.slice A8 n8 c8) n8 (xs ++ ys) := ho8
          have hW8 := hW7.trans (hB8.mono (Nat.le_refl _))
          have H8 := hide (And.intro (ho8'.sl encF_len (Nat.le_refl _)) (And.intro (K2.out.1.on hW8) (And.intro (K2.out.2.1.on hW8) (K2.out.2.2.2.2.trans (hW8.mono K2.out.2.2.2.2.size)))))
          have hn8 : n8 = (xs ++ ys).length := by rw [HN8.out, HN7.out, List.length_append]; omega
          have hn30 : n8 ≤ 30 := by have := HLL.out; rw [hn8, List.length_append]; omega
          have HN9 := hide (And.intro hn8 hn30)
          clear ho8 ho8' hW8 hn8 hn30 ho7 hg7 hB7 hat7 hg8 hB8 hat8 hW7
          refine (Seal7_as (L := 3) (n := 8) (m := 729) (k := n8) (q := qr) (l := xs ++ ys) (F := fldP 8 (xs ++ ys)) (ps := pr) (Lz := 3) (by omega) (by omega) rfl rfl rfl HN9.out.1 rfl HP.out.2.2.1.symm HP.out.2.2.2.2.2 (Nat.le_trans HN9.out.2 (by decide)) HFt.out.2.2 A8 c8 U8 H8.out.1).mono ?_
          rintro e w9 ⟨gk, A9, c9, rfl, _, _, ho9, hB9⟩
          have H9 := hide (And.intro ho9 hB9)
          clear ho9 hB9
          go_upto_region 15 with fail
          obtain ⟨X3, hX3⟩ : ∃ X, X = w9.alloc (.cells #[.int .i64 3, .slice (some ⟨gk, 0, none⟩) 729 729] 32) := ⟨_, rfl⟩
          rw [← hX3]
          obtain ⟨hb, hB⟩ := box7 hX3
          have hB9 := H9.out.2.trans (hB.mono H9.out.2.size)
          have K3 := hide (And.intro ((H9.out.1.below hB (Nat.le_refl _)).sl encPch_len (Nat.le_refl _)) (And.intro (H8.out.2.1.on hB9) (And.intro (H8.out.2.2.1.on hB9) (H8.out.2.2.2.trans (hB9.mono H8.out.2.2.2.size)))))
          clear hb hB hB9 hX3
          have hqxb : qx ≤ 100000000 := by rw [HP.out.2.2.2.1, HP.out.1]; exact pchs_few (by have := HX.out.2.2.1; omega)
          have hqyb : qy ≤ 100000000 := by rw [HP.out.2.2.2.2.1, HP.out.2.1]; exact pchs_few (by have := HY.out.2.2.1; omega)
          have hqrb : qr ≤ 200000000 := by have := HQ.out.2.2.2.2.2; omega
          have hsum : (qx : Int) + (qy : Int) = (qr : Int) := by have := HQ.out.2.2.2.2.2; omega
          go_upto_region 17 with fail
          have HSm := hide hsum
          clear hsum
          go_wp2_with fail
          go_loopw [16, 17, 18] (fun iv kv jv wr => ∃ i k j d : Nat, j ≤ qr ∧ iv = .int .i64 i ∧ kv = .int .i64 k ∧ jv = .int .i64 j ∧ MrgS B j i k ∧ wr = X3.drewN d) (fun _ _ jv _ => qr - (intOf jv).toNat)
          case atStart => exact ⟨0, 0, 0, 0, by omega, rfl, rfl, rfl, ⟨rfl, rfl⟩, rfl⟩
          case round =>
            obtain ⟨i, k, j, d, hj, rfl, rfl, rfl, hM, rfl⟩ := hrel
            by_cases hjq : j < qr
            · have i1 : (j : Int) < (qr : Int) := by omega
              obtain ⟨b, hb⟩ : ∃ b, B[j]? = some b := ⟨_, List.getElem?_eq_getElem (by have h1 := HP.out.2.2.2.2.2; have h2 := HP.out.2.2.1; rw [HQ.out.1] at h2; rw [h2, List.length_map] at h1; omega)⟩
              have hbm := List.mem_of_getElem? hb
              have hr : pr[j]? = some b.2 := by rw [HP.out.2.2.1, HQ.out.1, List.getElem?_map, hb]; rfl
              have hfb := HQ.out.2.2.2.2.1 b hbm
              obtain ⟨br, xr, hAr, _, g0, g1, g2, g3, g4, g5⟩ := K3.out.1.six hr
              subst hAr
              by_cases h1 : b.1 = true
              · have hp : px[i]? = some b.2 := by rw [hM.one, HP.out.1, HQ.out.2.1, List.getElem?_map, filter_place hb h1]; rfl
                have i2 : (i : Int) < (qx : Int) := by have h3 := (List.getElem?_eq_some_iff.1 hp).1; rw [← HP.out.2.2.2.1] at h3; omega
                obtain ⟨bp, xp, hAp, _, k0, k1, k2, k3, k4, k5⟩ := K3.out.2.2.1.six hp
                subst hAp
                have hq := eqPch_same b.2 hfb
                have HJ := hide (hM.left hb h1)
                clear hp hr hb hbm hM hfb h1
                go_wp2_with fail
                go_quiet (fail)
                go_wp2_with fail
                go_roundw
                case rel => exact ⟨i + 1, k, j + 1, d + nq, by omega, by go_num, rfl, by go_num, HJ.out, rfl⟩
                case measure => simp [intOf]; omega
              · have h1 : b.1 = false := by simpa using h1
                have hp2 : py[k]? = some b.2 := by rw [hM.two, HP.out.2.1, HQ.out.2.2.1, List.getElem?_map, filter_place (q := fun b => !b.1) hb (by simp [h1])]; rfl
                have i4 : (k : Int) < (qy : Int) := by have h3 := (List.getElem?_eq_some_iff.1 hp2).1; rw [← HP.out.2.2.2.2.1] at h3; omega
                obtain ⟨bq, xq, hAq, _, k0, k1, k2, k3, k4, k5⟩ := K3.out.2.1.six hp2
                subst hAq
                have hq := eqPch_same b.2 hfb
                by_cases h2 : i < qx
                · have i2 : (i : Int) < (qx : Int) := by omega
                  obtain ⟨p, hp⟩ : ∃ p, px[i]? = some p := ⟨_, List.getElem?_eq_getElem (by rw [← HP.out.2.2.2.1]; exact h2)⟩
                  obtain ⟨c, hcm, hct, hcp⟩ : ∃ c ∈ B, c.1 = true ∧ c.2 = p := by
                    have hm := List.mem_of_getElem? hp
                    rw [HP.out.1, HQ.out.2.1] at hm
                    obtain ⟨c, hc, rfl⟩ := List.mem_map.1 hm
                    obtain ⟨hc1, hc2⟩ := List.mem_filter.1 hc
                    exact ⟨c, hc1, hc2, rfl⟩
                  have hne : b.2 ≠ p := fun e => HQ.out.2.2.2.1 c hcm b hbm hct h1 (by rw [hcp, e])
                  have hfp : fitsPch p := by rw [← hcp]; exact HQ.out.2.2.2.2.1 c hcm
                  obtain ⟨bp, xp, hAp, _, l0, l1, l2, l3, l4, l5⟩ := K3.out.2.2.1.six hp
                  subst hAp
                  have hq2 := eqPch_ne b.2 p hfb hfp hne
                  have HJ := hide (hM.right hb h1)
                  clear hp hp2 hr hb hbm hM hfb hfp h1 h2 hcm hct hcp hne
                  go_wp2_with fail
                  go_quiet (fail)
                  go_wp2_with fail
                  obtain ⟨nq1, rfl⟩ : ∃ x, x = nq := ⟨_, rfl⟩
                  go_quiet (fail)
                  go_wp2_with fail
                  go_roundw
                  case rel => exact ⟨i, k + 1, j + 1, d + nq1 + nq, by omega, rfl, by go_num, by go_num, HJ.out, rfl⟩
                  case measure => simp [intOf]; omega
                · have i2 : ¬ (i : Int) < (qx : Int) := by omega
                  have i3 : decide ((i : Int) < (qx : Int)) = false := decide_eq_false i2
                  have i5 : decide (i < qx) = false := decide_eq_false h2
                  have HJ := hide (hM.right hb h1)
                  clear hp2 hr hb hbm hM hfb h1
                  go_wp2_with fail
                  go_quiet (fail)
                  go_wp2_with fail
                  obtain ⟨nq1, rfl⟩ : ∃ x, x = nq := ⟨_, rfl⟩
                  go_quiet (fail)
                  go_wp2_with fail
                  go_roundw
                  case rel => exact ⟨i, k + 1, j + 1, d + nq1 + nq, by omega, rfl, by go_num, by go_num, HJ.out, rfl⟩
                  case measure => simp [intOf]; omega
            · have i1 : ¬ (j : Int) < (qr : Int) := by omega
              have HEnd := hide (below_drewN K3.out.2.2.2 d)
              clear hM
              go_wp2_with fail
              go_ret
              exact ⟨rfl, HEnd.out⟩
end Go.Proofs.Ytdpgohpbannfnaa
