/- Joined texts: S8A S8B S8C S8D. -/
import Derived.Test.YtdpgohpbannfnaaCB2
import Derived.Test.YtdpgohpbannfnaaCB11
import Derived.Test.YtdpgohpbannfnaaCB14
import Derived.Test.YtdpgohpbannfnaaCB16
/- ref07.SameFaces, SamePatches, SameField where both are the same. -/
namespace Go.Proofs.Ytdpgohpbannfnaa
open Go.RowKit Go.Sort Go.WideMaps Go.Maps
set_option maxRecDepth 100000
theorem litsF (f : EF) (hf : fitsF f) : Try.prog.keyLits 2 45 (encF f) = some [.int .i64 f.1, .int .i64 f.2.1, .int .i64 f.2.2.1, .int .i64 f.2.2.2] := by
  obtain ⟨ha, h0, h1, h2⟩ := hf
  have wa := fits_wf ha
  have w0 := fits_wf h0
  have w1 := fits_wf h1
  have w2 := fits_wf h2
  have c : Try.prog.cellsOf 45 = 4 := by kernel_rfl
  have c1 : Try.prog.cellsOf 3 = 1 := by kernel_rfl
  simp [encF, Program.keyLits, Try.underlying45, Try.underlying3, c, c1, wa, w0, w1, w2]
theorem eqF_same (f : EF) (hf : fitsF f) (w : World) : (Op.equalIn 10000 45 (vF f) (vF f)).run Try.prog w = .ok true w := by
  have c : Try.prog.cellsOf 45 = 4 := by kernel_rfl
  obtain ⟨r, hr, he⟩ := run_equalIn_deep (P := Try.prog) 9998 2 45 (by kernel_rfl) w 2 2 (vF f) (vF f) _ _ (by simp [Value.formed, Try.underlying45, c]) (by simp [Value.formed, Try.underlying45, c]) (litsF f hf) (litsF f hf)
  rw [hr, he.2 rfl]
def fitsPch (p : Pch) : Prop := fitsF p.1 ∧ fits p.2.1 ∧ fits p.2.2
abbrev vPch (p : Pch) : Value := .agg #[.int .i64 p.1.1, .int .i64 p.1.2.1, .int .i64 p.1.2.2.1, .int .i64 p.1.2.2.2, .int .i64 p.2.1, .int .i64 p.2.2]
theorem litsI7 (c : Int) (hc : fits c) : Try.prog.keyLits 2 3 [.int .i64 c] = some [.int .i64 c] := by
  have w1 := fits_wf hc
  simp [Program.keyLits, Try.underlying3, w1]
theorem litsPch (p : Pch) (hp : fitsPch p) : Try.prog.keyLits 3 47 (encPch p) = some [.int .i64 p.1.1, .int .i64 p.1.2.1, .int .i64 p.1.2.2.1, .int .i64 p.1.2.2.2, .int .i64 p.2.1, .int .i64 p.2.2] := by
  have w1 := litsI7 p.2.1 hp.2.1
  have w2 := litsI7 p.2.2 hp.2.2
  have c : Try.prog.cellsOf 47 = 6 := by kernel_rfl
  have c4 : Try.prog.cellsOf 45 = 4 := by kernel_rfl
  have c1 : Try.prog.cellsOf 3 = 1 := by kernel_rfl
  have h0 := litsF p.1 hp.1
  unfold encF at h0
  unfold Program.keyLits
  simp [encPch, Try.underlying47, c, c4, c1, h0, w1, w2]
theorem eqPch_same (p : Pch) (hp : fitsPch p) (w : World) : (Op.equalIn 10000 47 (vPch p) (vPch p)).run Try.prog w = .ok true w := by
  have c : Try.prog.cellsOf 47 = 6 := by kernel_rfl
  obtain ⟨r, hr, he⟩ := run_equalIn_deep (P := Try.prog) 9997 3 47 (by kernel_rfl) w 3 3 (vPch p) (vPch p) _ _ (by simp [Value.formed, Try.underlying47, c]) (by simp [Value.formed, Try.underlying47, c]) (litsPch p hp) (litsPch p hp)
  rw [hr, he.2 rfl]
theorem Sl.six {w : World} {B : Nat} {A : Option Addr} {ps : List Pch} (h : Sl encPch 6 w B A ps) {i : Nat} {p : Pch} (hi : ps[i]? = some p) :
    ∃ b o, A = some ⟨b, o, none⟩ ∧ b < B ∧ w.cell? ⟨b, o + i * 6, none⟩ = some (.int .i64 p.1.1) ∧ w.cell? ⟨b, o + i * 6 + 1, none⟩ = some (.int .i64 p.1.2.1) ∧ w.cell? ⟨b, o + i * 6 + 2, none⟩ = some (.int .i64 p.1.2.2.1) ∧ w.cell? ⟨b, o + i * 6 + 3, none⟩ = some (.int .i64 p.1.2.2.2) ∧ w.cell? ⟨b, o + i * 6 + 4, none⟩ = some (.int .i64 p.2.1) ∧ w.cell? ⟨b, o + i * 6 + 5, none⟩ = some (.int .i64 p.2.2) := by
  obtain ⟨b, o, ha, hb, hc⟩ := h.at hi
  exact ⟨b, o, ha, hb, hc 0 _ rfl, hc 1 _ rfl, hc 2 _ rfl, hc 3 _ rfl, hc 4 _ rfl, hc 5 _ rfl⟩
set_option maxHeartbeats 4000000 in
theorem sameFaces_true (A B : Option Addr) (c d n1 n2 : Nat) (xs : List EF) (w : World) (hx : Sl encF 4 w n1 A xs) (hy : Sl encF 4 w n2 B xs) (hl : xs.length ≤ 100000000) (hf : ∀ f ∈ xs, fitsF f) :
    Calls Try.prog 26 #[.slice A xs.length c, .slice B xs.length d] w fun e w' => e = .returned (.bool true) ∧ ∃ q, w' = w.drewN q := by
  obtain ⟨M, hM⟩ : ∃ M, M = xs.length := ⟨_, rfl⟩
  rw [← hM] at hl ⊢
  have H := hide (And.intro hx (And.intro hy (And.intro hf hM)))
  clear hx hy hf hM
  go_enter Try.func26, Try.ntmps26
  go_wp2
  go_loopw [5] (fun i wr => ∃ k n : Nat, k ≤ M ∧ i = .int .i64 k ∧ wr = w.drewN n) (fun i _ => M - (intOf i).toNat)
  case atStart => exact ⟨0, 0, Nat.zero_le _, rfl, rfl⟩
  case round =>
    obtain ⟨k, n, hk, rfl, rfl⟩ := hrel
    by_cases hlt : k < M
    · obtain ⟨u, hu⟩ : ∃ u, xs[k]? = some u := ⟨_, List.getElem?_eq_getElem (by rw [← H.out.2.2.2]; exact hlt)⟩
      obtain ⟨bA, oA, hA, _, g0, g1, g2, g3⟩ := H.out.1.four hu
      obtain ⟨bB, oB, hB, _, k0, k1, k2, k3⟩ := H.out.2.1.four hu
      subst hA hB
      have hq := eqF_same u (H.out.2.2.1 u (List.mem_of_getElem? hu))
      have i1 : (k : Int) < (M : Int) := by omega
      have HU := hide hu
      clear hu
      go_wp2_with fail
      go_quiet (fail)
      go_wp2
      go_roundw
      case rel => exact ⟨k + 1, n + nq, by omega, by go_num, rfl⟩
      case measure => simp [intOf]; omega
    · have i1 : ¬ (k : Int) < (M : Int) := by omega
      go_wp2
      go_ret
      exact ⟨rfl, n, rfl⟩
set_option maxHeartbeats 4000000 in
theorem samePatches_true (A B : Option Addr) (c d n1 n2 : Nat) (xs : List Pch) (w : World) (hx : Sl encPch 6 w n1 A xs) (hy : Sl encPch 6 w n2 B xs) (hl : xs.length ≤ 100000000) (hf : ∀ f ∈ xs, fitsPch f) :
    Calls Try.prog 22 #[.slice A xs.length c, .slice B xs.length d] w fun e w' => e = .returned (.bool true) ∧ ∃ q, w' = w.drewN q := by
  obtain ⟨M, hM⟩ : ∃ M, M = xs.length := ⟨_, rfl⟩
  rw [← hM] at hl ⊢
  have H := hide (And.intro hx (And.intro hy (And.intro hf hM)))
  clear hx hy hf hM
  go_enter Try.func22, Try.ntmps22
  go_wp2
  go_loopw [5] (fun i wr => ∃ k n : Nat, k ≤ M ∧ i = .int .i64 k ∧ wr = w.drewN n) (fun i _ => M - (intOf i).toNat)
  case atStart => exact ⟨0, 0, Nat.zero_le _, rfl, rfl⟩
  case round =>
    obtain ⟨k, n, hk, rfl, rfl⟩ := hrel
    by_cases hlt : k < M
    · obtain ⟨u, hu⟩ : ∃ u, xs[k]? = some u := ⟨_, List.getElem?_eq_getElem (by rw [← H.out.2.2.2]; exact hlt)⟩
      obtain ⟨bA, oA, hA, _, g0, g1, g2, g3, g4, g5⟩ := H.out.1.six hu
      obtain ⟨bB, oB, hB, _, k0, k1, k2, k3, k4, k5⟩ := H.out.2.1.six hu
      subst hA hB
      have hq := eqPch_same u (H.out.2.2.1 u (List.mem_of_getElem? hu))
      have i1 : (k : Int) < (M : Int) := by omega
      have HU := hide hu
      clear hu
      go_wp2_with fail
      go_quiet (fail)
      go_wp2
      go_roundw
      case rel => exact ⟨k + 1, n + nq, by omega, by go_num, rfl⟩
      case measure => simp [intOf]; omega
    · have i1 : ¬ (k : Int) < (M : Int) := by omega
      go_wp2
      go_ret
      exact ⟨rfl, n, rfl⟩
set_option maxHeartbeats 8000000 in
theorem sameField_true (L : Int) (g1 g2 c1 c2 : Nat) (F : List Bool) (w : World) (h1 : RowB w g1 F) (h2 : RowB w g2 F) (hl : F.length ≤ 100000000) :
    Calls Try.prog 19 #[.agg #[.int .i64 L, .slice (some ⟨g1, 0, none⟩) F.length c1], .agg #[.int .i64 L, .slice (some ⟨g2, 0, none⟩) F.length c2]] w fun e w' => e = .returned (.bool true) ∧ Below w.heap.size w w' := by
  obtain ⟨M, hM⟩ : ∃ M, M = F.length := ⟨_, rfl⟩
  rw [← hM] at hl ⊢
  have H := hide (And.intro h1 (And.intro h2 hM))
  clear h1 h2 hM
  go_enter Try.func19, Try.ntmps19
  go_upto_region 1 with fail
  obtain ⟨X, hX⟩ : ∃ X, X = (w.alloc (.cells #[.int .i64 L, .slice (some ⟨g1, 0, none⟩) M c1] 32)).alloc (.cells #[.int .i64 L, .slice (some ⟨g2, 0, none⟩) M c2] 32) := ⟨_, rfl⟩
  rw [← hX]
  have hBX : Below w.heap.size w X := by rw [hX]; exact ((Below.refl _ w).alloc (Nat.le_refl _) _).alloc (by simp) _
  have b1 : Blk X w.heap.size 32 #[.int .i64 L, .slice (some ⟨g1, 0, none⟩) M c1] := by rw [hX]; exact (Blk.new _ _ _).alloc _
  have b2 : Blk X (w.heap.size + 1) 32 #[.int .i64 L, .slice (some ⟨g2, 0, none⟩) M c2] := by rw [hX]; exact Blk.new' _ _ _ _ (by simp)
  obtain ⟨a0, a1⟩ : X.cell? ⟨w.heap.size, 0, none⟩ = some (.int .i64 L) ∧ X.cell? ⟨w.heap.size, 1, none⟩ = some (.slice (some ⟨g1, 0, none⟩) M c1) := ⟨b1.cell 0, b1.cell 1⟩
  obtain ⟨d0, d1⟩ : X.cell? ⟨w.heap.size + 1, 0, none⟩ = some (.int .i64 L) ∧ X.cell? ⟨w.heap.size + 1, 1, none⟩ = some (.slice (some ⟨g2, 0, none⟩) M c2) := ⟨b2.cell 0, b2.cell 1⟩
  have HX := hide (And.intro hBX (And.intro (H.out.1.below hBX H.out.1.lt) (H.out.2.1.below hBX H.out.2.1.lt)))
  clear hX hBX b1 b2
  go_wp2_with fail
  go_loopw [5] (fun i wr => ∃ k n : Nat, k ≤ M ∧ i = .int .i64 k ∧ wr = X.drewN n) (fun i _ => M - (intOf i).toNat)
  case atStart => exact ⟨0, 0, Nat.zero_le _, rfl, rfl⟩
  case round =>
    obtain ⟨k, n, hk, rfl, rfl⟩ := hrel
    by_cases hlt : k < M
    · obtain ⟨u, hu⟩ : ∃ u, F[k]? = some u := ⟨_, List.getElem?_eq_getElem (by rw [← H.out.2.2]; exact hlt)⟩
      have e1 := HX.out.2.1.cell hu
      have e2 := HX.out.2.2.cell hu
      have i1 : (k : Int) < (M : Int) := by omega
      have HU := hide hu
      clear hu
      go_wp2_with fail
      go_quiet (fail)
      go_wp2
      go_roundw
      case rel => exact ⟨k + 1, n + nq, by omega, by go_num, rfl⟩
      case measure => simp [intOf]; omega
    · have i1 : ¬ (k : Int) < (M : Int) := by omega
      go_wp2
      go_ret
      exact ⟨rfl, below_drewN HX.out.1 n⟩
end Go.Proofs.Ytdpgohpbannfnaa
/- law07.some. -/
namespace Go.Proofs.Ytdpgohpbannfnaa
open Go.RowKit Go.Sort Go.WideMaps Go.Maps
/-- An edge as some makes it. -/
def someE (e : EF) : Prop := (0 ≤ e.1 ∧ e.1 < 4) ∧ (-2 ≤ e.2.1 ∧ e.2.1 < 9) ∧ (0 ≤ e.2.2.1 ∧ e.2.2.1 < 9) ∧ (0 ≤ e.2.2.2 ∧ e.2.2.2 < 9)
/-- All of a list as some makes them. -/
def someL (es : List EF) : Prop := ∀ e ∈ es, someE e
theorem someE.fits {e : EF} (h : someE e) : fitsF e := by unfold someE at h; unfold fitsF fitsP Proofs.Ytdpgohpbannfnaa.fits; omega
theorem infoEd : (Try.prog.info? 44).map (fun i => (i.zero, i.size, i.bytes)) = some (some (.agg #[.int .i64 0, .int .i64 0, .int .i64 0, .int .i64 0]), 4, 32) := by kernel_rfl
set_option maxRecDepth 100000 in
set_option maxHeartbeats 16000000 in
theorem some7_any (A : Option Addr) (c : Nat) (l : List Int) (n : Int) (w : World) (hs : l ≠ [] → Sl encZ 1 w w.heap.size A l) (hf : ∀ x ∈ l, fits x) (hl : l.length ≤ 9223372036854775807) :
    Calls Try.prog 13 #[.slice A l.length c, .int .i64 n] w fun e w' => ∃ v es, e = .returned v ∧ Own encF 4 44 w' w.heap.size v es.length es ∧ es.length ≤ 30 ∧ someL es ∧ Below w.heap.size w w' := by
  obtain ⟨M, hM⟩ : ∃ M, M = l.length := ⟨_, rfl⟩
  rw [← hM] at hl ⊢
  have HC := hide (And.intro hs (And.intro hf hM))
  clear hs hf hM
  go_enter Try.func13, Try.ntmps13
  go_wp2_with fail
  go_loopw [5, 6] (fun ov iv wr => ∃ (i : Nat) (es : List EF), i ≤ M ∧ i ≤ 30 ∧ iv = .int .i64 i ∧ Own encF 4 44 wr w.heap.size ov i es ∧ someL es ∧ Below w.heap.size w wr) (fun _ iv _ => 30 - (intOf iv).toNat)
  case atStart => exact ⟨0, [], by omega, by omega, rfl, Own.nil, (fun e he => by cases he), Below.refl _ _⟩
  case round =>
    obtain ⟨i, es, hiM, hi30, rfl, hown, hes, hB⟩ := hrel
    obtain ⟨V, rfl⟩ : ∃ V, V = wr := ⟨_, rfl⟩
    by_cases hlt : ¬ (i < M ∧ i < 30)
    · have HE := hide (And.intro hown (And.intro hes hB))
      clear hown hes hB
      by_cases h1 : i < M
      · have i1 : (i : Int) < (M : Int) := by omega
        have i2 : ¬ (i : Int) < 30 := by omega
        go_wp2
        go_ret
        exact ⟨_, rfl, es, by rw [← HE.out.1.1]; exact HE.out.1, by rw [← HE.out.1.1]; exact hi30, HE.out.2.1, HE.out.2.2⟩
      · have i1 : ¬ (i : Int) < (M : Int) := by omega
        go_wp2
        go_ret
        exact ⟨_, rfl, es, by rw [← HE.out.1.1]; exact HE.out.1, by rw [← HE.out.1.1]; exact hi30, HE.out.2.1, HE.out.2.2⟩
    · have i1 : (i : Int) < (M : Int) := by omega
      have i2 : (i : Int) < 30 := by omega
      have i3 : i < M := by omega
      have i4 : i < 30 := by omega
      clear hlt
      obtain ⟨x, hx⟩ : ∃ x, l[i]? = some x := ⟨_, List.getElem?_eq_getElem (by rw [← HC.out.2.2]; exact i3)⟩
      have hne : l ≠ [] := fun h => by rw [h] at hx; cases hx
      obtain ⟨tb, oo, hA, htb, g0⟩ := ((HC.out.1 hne).below hB).num hx
      subst hA
      have hfx := HC.out.2.1 x (List.mem_of_getElem? hx)
      have hw17 : wrap64 (x.tmod 17) = x.tmod 17 := by have := tmod_bound x 17 (by omega); unfold wrap64; omega
      have hw19 : wrap64 (x.tmod 19) = x.tmod 19 := by have := tmod_bound x 19 (by omega); unfold wrap64; omega
      have HV := hide (And.intro hown (And.intro hes (And.intro hB hfx)))
      clear hown hes hB hfx hx
      go_wp2_with fail
      refine (edge7_any x n HV.out.2.2.2 V).mono ?_
      rintro r w1 ⟨ed, hed, rfl, hB1⟩
      have g1 : w1.cell? ⟨tb, oo + i, none⟩ = some (.int .i64 x) := (hB1.cell (p := ⟨tb, oo + i, none⟩) (Nat.lt_of_lt_of_le htb HV.out.2.2.1.size)).trans g0
      obtain ⟨Y, hY⟩ : ∃ Y, Y = w1.alloc (.cells #[.int .i64 ed.1, .int .i64 ed.2.1, .int .i64 ed.2.2.1, .int .i64 ed.2.2.2] 44) := ⟨_, rfl⟩
      have hbY : Blk Y w1.heap.size 44 #[.int .i64 ed.1, .int .i64 ed.2.1, .int .i64 ed.2.2.1, .int .i64 ed.2.2.2] := by rw [hY]; exact Blk.new _ _ _
      have hB1Y : Below w1.heap.size w1 Y := by rw [hY]; exact (Below.refl _ w1).alloc (Nat.le_refl _) _
      have h1V := hB1.size
      have hVw := HV.out.2.2.1.size
      have g2 : Y.cell? ⟨tb, oo + i, none⟩ = some (.int .i64 x) := (hB1Y.cell (p := ⟨tb, oo + i, none⟩) (by dsimp only; omega)).trans g1
      obtain ⟨a0, a1, a2, a3⟩ := hbY.four
      have z0 := hbY.frozen 0
      have z1 := hbY.frozen 1
      have hbe : (-2 ≤ ed.2.1 ∧ ed.2.1 < 100) ∧ (-2 ≤ ed.1 ∧ ed.1 < 100) := by unfold madeE at hed; omega
      obtain ⟨⟨q1, q2⟩, q3, q4⟩ := hbe
      have hoY := (HV.out.1.below hB1 (Nat.le_refl _)).below hB1Y (Nat.le_refl _)
      have htb1 : tb < w1.heap.size := by omega
      have HY := hide (And.intro hbY (And.intro hoY (And.intro hed ((HV.out.2.2.1.trans (hB1.mono hVw)).trans (hB1Y.mono (by omega))))))
      clear hbY hB1Y hoY hed hB1 g0 g1
      have hnb : ∀ r, u5.ownBlock = some r → r < w1.heap.size := fun r hr => by have := (HV.out.1.blk r hr).2; omega
      have HN := hide hnb
      clear hnb
      go_upto_region 6 with fail
      rw [← hY]
      clear hY
      go_upto_if 29 with fail
      have hw1 : w.heap.size ≤ w1.heap.size := by omega
      go_cut [] (fun wx => ∃ z : Int, (-2 ≤ z ∧ z < 9) ∧ Blk wx w1.heap.size 44 #[.int .i64 ed.1, .int .i64 z, .int .i64 ed.2.2.1, .int .i64 ed.2.2.2] ∧ Own encF 4 44 wx w.heap.size u5 i es ∧ Below w.heap.size w wx ∧ wx.cell? ⟨tb, oo + i, none⟩ = some (.int .i64 x) ∧ w1.heap.size < wx.heap.size)
      case first =>
        by_cases h17 : x.tmod 17 = 0
        · go_wp2_with fail
          go_meet
          case rel =>
            refine ⟨ed.2.1 - 2, ?_, HY.out.1.set_ 1 _, HY.out.2.1.kept (grown_set7 _ _ _ _) (.inr fun e => by have := HN.out _ e; omega), HY.out.2.2.2.setCell hw1 _, ((Below.refl w1.heap.size Y).setCell (Nat.le_refl _) _).cell (p := ⟨tb, oo + i, none⟩) htb1 |>.trans g2, ?_⟩
            · have := HY.out.2.2.1; unfold madeE at this; omega
            · have := Blk.lt HY.out.1; simpa using this
        · go_wp2_with fail
          go_meet
          case rel =>
            refine ⟨ed.2.1, ?_, HY.out.1, HY.out.2.1, HY.out.2.2.2, g2, Blk.lt HY.out.1⟩
            have := HY.out.2.2.1; unfold madeE at this; omega
      case rest =>
        obtain ⟨z, hz, hb, ho, hB, hg, hlt⟩ := hcut
        obtain ⟨V2, rfl⟩ : ∃ V2, V2 = wc := ⟨_, rfl⟩
        clear a0 a1 a2 a3 z0 z1 g2
        obtain ⟨a0, a1, a2, a3⟩ := hb.four
        have z0 := hb.frozen 0
        have HZ := hide (And.intro hz (And.intro hb (And.intro ho (And.intro hB hlt))))
        clear hz hb ho hB hlt
        go_upto_if 39 with fail
        go_cut [] (fun wx => ∃ y : Int, (0 ≤ y ∧ y < 4) ∧ Blk wx w1.heap.size 44 #[.int .i64 y, .int .i64 z, .int .i64 ed.2.2.1, .int .i64 ed.2.2.2] ∧ Own encF 4 44 wx w.heap.size u5 i es ∧ Below w.heap.size w wx ∧ w1.heap.size < wx.heap.size)
        case first =>
          by_cases h19 : x.tmod 19 = 0
          · go_wp2_with fail
            go_meet
            case rel =>
              refine ⟨ed.1 + 1, ?_, HZ.out.2.1.set_ 0 _, HZ.out.2.2.1.kept (grown_set7 _ _ _ _) (.inr fun e => by have := HN.out _ e; omega), HZ.out.2.2.2.1.setCell hw1 _, by have := HZ.out.2.2.2.2; simpa using this⟩
              have := HY.out.2.2.1; unfold madeE at this; omega
          · go_wp2_with fail
            go_meet
            case rel =>
              refine ⟨ed.1, ?_, HZ.out.2.1, HZ.out.2.2.1, HZ.out.2.2.2.1, HZ.out.2.2.2.2⟩
              have := HY.out.2.2.1; unfold madeE at this; omega
        case rest =>
          obtain ⟨y, hy, hb, ho, hB, hlt⟩ := hcut
          obtain ⟨V3, rfl⟩ : ∃ V3, V3 = wc := ⟨_, rfl⟩
          clear a0 a1 a2 a3 z0 hg
          obtain ⟨a0, a1, a2, a3⟩ := hb.four
          have HW := hide (And.intro hy (And.intro ho (And.intro hB hlt)))
          clear hy hb hB hlt
          go_wp2_with (at_builtin; refine wpList_append1 rfl _ _ _ rfl Try.underlying25 infoEd rfl (by omega) encF_len encF_one rfl (ho.alloc _) V3.heap.size 1 (y, (z, ed.2.2.1, ed.2.2.2)) rfl (Blk.new _ _ _) (by unfold maxLen; omega) (by omega) (by have := HW.out.2.2.2; simp; omega) ?_; intro g cap w7 hown7 hg7 hB7 hat7 hgb7 hlt7)
          refine ⟨⟨i + 1, _, by omega, by omega, by go_num, hown7, ?_, ?_⟩, by simp [intOf]; omega⟩
          · intro e he
            rcases List.mem_append.1 he with he | he
            · exact HV.out.2.1 e he
            · rw [List.mem_singleton.1 he]
              have h1 := HY.out.2.2.1
              have h2 := HW.out.1
              have h3 := HZ.out.1
              unfold madeE at h1
              unfold someE
              dsimp only
              omega
          · exact HW.out.2.2.1.trans (((Below.refl w.heap.size V3).alloc (by have := HW.out.2.2.2; omega) _).trans hB7)
end Go.Proofs.Ytdpgohpbannfnaa
/- law07.star, only, sanity. -/
namespace Go.Proofs.Ytdpgohpbannfnaa
open Go.RowKit Go.Sort Go.WideMaps Go.Maps
theorem own_lit7 {α : Type} {enc : α → List Value} {k : Nat} {e : TypeId} {w : World} {base n : Nat} (hk : ∀ x, (enc x).length = k) (hb : base ≤ w.heap.size) (xs : List α) (hn : n = xs.length) (hl : n ≤ 1000000) :
    Own enc k e (w.alloc (.cells (xs.flatMap enc).toArray e)) base (.slice (some ⟨w.heap.size, 0, none⟩) n n) n xs := by
  subst hn
  exact ⟨rfl, World.ownsRow_lit (e := e) (size := k) w (xs.flatMap enc).toArray xs.length hb (by unfold maxLen; omega) (by simp [flat_len hk])⟩
set_option maxRecDepth 100000 in
set_option maxHeartbeats 4000000 in
theorem star7_any (w : World) : Calls Try.prog 23 #[.int .i64 2, .int .i64 2, .int .i64 2] w fun e w' => ∃ g, e = .returned (.slice (some ⟨g, 0, none⟩) 6 6) ∧ Own encF 4 44 w' w.heap.size (.slice (some ⟨g, 0, none⟩) 6 6) 6 star7 ∧ w.heap.size ≤ g ∧ Below w.heap.size w w' := by
  go_enter Try.func23, Try.ntmps23
  go_wp2
  go_ret
  exact ⟨w.heap.size, rfl, own_lit7 encF_len (Nat.le_refl _) star7 rfl (by omega), Nat.le_refl _, (Below.refl _ w).alloc (Nat.le_refl _) _⟩
theorem oneF_get (b : Bool) {k : Nat} (hk : k < 125) : (oneF b)[k]? = some (b && decide (k = 62)) := by
  unfold oneF
  rw [List.getElem?_map, List.getElem?_range hk]
  rfl
set_option maxRecDepth 100000 in
set_option maxHeartbeats 8000000 in
theorem only7_any (g c : Nat) (b : Bool) (w : World) (h : RowB w g (oneF b)) :
    Calls Try.prog 24 #[.agg #[.int .i64 2, .slice (some ⟨g, 0, none⟩) 125 c], .bool b] w fun e w' => e = .returned (.bool true) ∧ Below w.heap.size w w' := by
  have H := hide h
  clear h
  go_enter Try.func24, Try.ntmps24
  go_upto_region 1 with fail
  obtain ⟨X, hX⟩ : ∃ X, X = w.alloc (.cells #[.int .i64 2, .slice (some ⟨g, 0, none⟩) 125 c] 32) := ⟨_, rfl⟩
  rw [← hX]
  have hBX : Below w.heap.size w X := by rw [hX]; exact (Below.refl _ w).alloc (Nat.le_refl _) _
  have b1 : Blk X w.heap.size 32 #[.int .i64 2, .slice (some ⟨g, 0, none⟩) 125 c] := by rw [hX]; exact Blk.new _ _ _
  obtain ⟨a0, a1⟩ : X.cell? ⟨w.heap.size, 0, none⟩ = some (.int .i64 2) ∧ X.cell? ⟨w.heap.size, 1, none⟩ = some (.slice (some ⟨g, 0, none⟩) 125 c) := ⟨b1.cell 0, b1.cell 1⟩
  have HX := hide (And.intro hBX (H.out.below hBX (Blk.lt H.out)))
  clear hX hBX b1
  go_wp2_with fail
  go_loopw [5] (fun iv wr => ∃ k : Nat, k ≤ 125 ∧ iv = .int .i64 k ∧ wr = X) (fun iv _ => 125 - (intOf iv).toNat)
  case atStart => exact ⟨0, by omega, rfl, rfl⟩
  case round =>
    obtain ⟨k, hk, rfl, rfl⟩ := hrel
    by_cases hlt : k < 125
    · have e1 := HX.out.2.cell (oneF_get b hlt)
      have i1 : (k : Int) < 125 := by omega
      cases b with
      | false =>
        rw [Bool.false_and] at e1
        go_wp2
        go_roundw
        case rel => exact ⟨k + 1, by omega, by go_num, by trivial⟩
        case measure => simp [intOf]; omega
      | true =>
        by_cases h62 : k = 62
        · rw [Bool.true_and, decide_eq_true h62] at e1
          have i2 : ((k : Int) == 62) = true := by simp; omega
          have i3 : decide ((k : Int) = 62) = true := by simp; omega
          clear h62
          go_wp2
          go_roundw
          case rel => exact ⟨k + 1, by omega, by go_num, by trivial⟩
          case measure => simp [intOf]; omega
        · rw [Bool.true_and, decide_eq_false h62] at e1
          have i2 : ((k : Int) == 62) = false := by simp; omega
          have i3 : ¬ (k : Int) = 62 := by omega
          clear h62
          go_wp2
          go_roundw
          case rel => exact ⟨k + 1, by omega, by go_num, by trivial⟩
          case measure => simp [intOf]; omega
    · have i1 : ¬ (k : Int) < 125 := by omega
      go_wp2
      go_ret
      exact ⟨rfl, HX.out.1⟩
theorem Seal7_as {L n m k q : Nat} {Lz : Int} {F : List Bool} {ps : List Pch} {l : List EF} (h1 : 1 ≤ L) (h8 : L ≤ 8) (hL : Lz = (L : Int)) (hn : n = 2 ^ L) (hm : m = (n + 1) * (n + 1) * (n + 1)) (hk : k = l.length) (hF : fldP n l = F) (hP : pchsP n l = ps) (hq : q = ps.length) (hl : k ≤ 100000) (hf : ∀ e ∈ l, fitsF e)
    (A : Option Addr) (c : Nat) (w : World) (hs : Sl encF 4 w w.heap.size A l) :
    Calls Try.prog 17 #[.slice A k c, .int .i64 Lz] w fun e w' => ∃ gi A' c', e = .returned (.tuple #[.agg #[.int .i64 Lz, .slice (some ⟨gi, 0, none⟩) m m], .slice A' q c']) ∧
      RowB w' gi F ∧ w.heap.size ≤ gi ∧ Own encPch 6 47 w' w.heap.size (.slice A' q c') q ps ∧ Below w.heap.size w w' := by
  subst hL hm hn hk hF hP hq
  refine (Seal7_any L h1 h8 A c l w hs hl hf).mono ?_
  rintro e w' ⟨gi, pv, rfl, hr, hg, ho, hB⟩
  obtain ⟨A', c', rfl⟩ := ho.form
  exact ⟨gi, A', c', rfl, hr, hg, ho, hB⟩
theorem Odd7_as {k m : Nat} {Lz : Int} {fs : List EF} {l : List EF} (hk : k = l.length) (hv : oddV Lz l = fs) (hm : m = fs.length) (hl : k ≤ 1000000) (hf : ∀ e ∈ l, fitsF e) (A : Option Addr) (c : Nat) (w : World) (hs : Sl encF 4 w w.heap.size A l) :
    Calls Try.prog 18 #[.slice A k c, .int .i64 Lz] w fun e w' => ∃ A' c', e = .returned (.slice A' m c') ∧ Own encF 4 45 w' w.heap.size (.slice A' m c') m fs ∧ Below w.heap.size w w' := by
  subst hk hv hm
  refine (Odd7_any Lz A c l w hs hl hf).mono ?_
  rintro e w' ⟨v, rfl, ho, hB⟩
  obtain ⟨A', c', rfl⟩ := ho.form
  exact ⟨A', c', rfl, ho, hB⟩
theorem oddV_two (l : List EF) : oddV 2 l = oddP 4 l := by unfold oddV; rw [if_pos (by omega)]; rfl
theorem star_fits : ∀ e ∈ star7, fitsF e := by
  intro e he
  simp only [star7, List.mem_cons, List.not_mem_nil, or_false] at he
  rcases he with rfl | rfl | rfl | rfl | rfl | rfl <;> (unfold fitsF fitsP fits; simp)
theorem tail_fits : ∀ e ∈ tail7, fitsF e := fun e he => star_fits e (List.mem_cons_of_mem _ he)
theorem lone_fits : ∀ e ∈ [((2 : Int), ((1 : Int), (1 : Int), (0 : Int)))], fitsF e := by
  intro e he
  rw [List.mem_singleton.1 he]
  unfold fitsF fitsP fits
  simp
theorem Sl.tail7 {w : World} {B g : Nat} {e : EF} {l : List EF} (h : Sl encF 4 w B (some ⟨g, 0, none⟩) (e :: l)) : Sl encF 4 w B (some ⟨g, 4, none⟩) l := by
  rcases h with ⟨h0, _⟩ | ⟨b, o, ha, hb, hc⟩
  · cases h0
  · injection ha with ha
    injection ha with h1 h2
    subst h1 h2
    refine .inr ⟨g, 4, rfl, hb, fun i x hi j u hj => ?_⟩
    have := hc (i + 1) x (by simpa using hi) j u hj
    rw [← this]
    congr 2
    omega
end Go.Proofs.Ytdpgohpbannfnaa
/- law07.sanity. -/
namespace Go.Proofs.Ytdpgohpbannfnaa
open Go.RowKit Go.Sort Go.WideMaps Go.Maps
theorem Sl.on {α : Type} {enc : α → List Value} {k : Nat} {w w' : World} {A : Option Addr} {xs : List α} (h : Sl enc k w w.heap.size A xs) (hb : Below w.heap.size w w') : Sl enc k w' w'.heap.size A xs := (h.below hb).more hb.size
theorem Blk.on {w w' : World} {g : Nat} {t : TypeId} {cs : Array Value} (h : Blk w g t cs) (hb : Below w.heap.size w w') : Blk w' g t cs := h.below hb h.lt
theorem RowB.on {w w' : World} {g : Nat} {F : List Bool} (h : RowB w g F) (hb : Below w.heap.size w w') : RowB w' g F := h.below hb (Blk.lt h)
theorem Blk.two7 {W : World} {g : Nat} {t : TypeId} {a b : Value} (h : Blk W g t #[a, b]) : W.cell? ⟨g, 0, none⟩ = some a ∧ W.cell? ⟨g, 1, none⟩ = some b := ⟨h.cell 0, h.cell 1⟩
/-- What lies in memory once the three examples are sealed. -/
structure SanS (w W : World) (g gi2 n2 gi3 n3 gi4 n4 : Nat) (A3 A4 : Option Addr) (p : Pch) : Prop where
  star : Sl encF 4 W W.heap.size (some ⟨g, 0, none⟩) star7
  r2 : RowB W gi2 (oneF true)
  b2 : Blk W n2 32 #[.int .i64 2, .slice (some ⟨gi2, 0, none⟩) 125 125]
  r3 : RowB W gi3 (oneF true)
  b3 : Blk W n3 32 #[.int .i64 2, .slice (some ⟨gi3, 0, none⟩) 125 125]
  r4 : RowB W gi4 (oneF false)
  b4 : Blk W n4 32 #[.int .i64 2, .slice (some ⟨gi4, 0, none⟩) 125 125]
  o3 : Sl encPch 6 W W.heap.size A3 [((1, (2, 2, 1)), 2, 1)]
  o4 : Sl encPch 6 W W.heap.size A4 [p]
  bel : Below w.heap.size w W
theorem SanS.on {w W W' : World} {g gi2 n2 gi3 n3 gi4 n4 : Nat} {A3 A4 : Option Addr} {p : Pch} (h : SanS w W g gi2 n2 gi3 n3 gi4 n4 A3 A4 p) (hb : Below W.heap.size W W') : SanS w W' g gi2 n2 gi3 n3 gi4 n4 A3 A4 p :=
  ⟨h.star.on hb, h.r2.on hb, h.b2.on hb, h.r3.on hb, h.b3.on hb, h.r4.on hb, h.b4.on hb, h.o3.on hb, h.o4.on hb, h.bel.trans (hb.mono h.bel.size)⟩
theorem pch3_fits : ∀ q ∈ [(((1 : Int), ((2 : Int), (2 : Int), (1 : Int))), 2, 1)], fitsPch q := by
  intro q hq
  rw [List.mem_singleton.1 hq]
  unfold fitsPch fitsF fitsP fits
  simp
theorem samePatches_as (q : Nat) (xs : List Pch) (hq : q = xs.length) (A B : Option Addr) (c d n1 n2 : Nat) (w : World) (hx : Sl encPch 6 w n1 A xs) (hy : Sl encPch 6 w n2 B xs) (hl : xs.length ≤ 100000000) (hf : ∀ f ∈ xs, fitsPch f) :
    Calls Try.prog 22 #[.slice A q c, .slice B q d] w fun e w' => e = .returned (.bool true) ∧ ∃ q, w' = w.drewN q := by
  subst hq
  exact samePatches_true A B c d n1 n2 xs w hx hy hl hf
set_option maxRecDepth 100000 in
set_option maxHeartbeats 32000000 in
theorem sanity7_any (w : World) : Calls Try.prog 11 #[] w fun e w' => e = .returned (.bool true) ∧ Below w.heap.size w w' := by
  obtain ⟨p, hp, hp1⟩ := lone_pch
  have HP := hide (And.intro hp hp1)
  clear hp hp1
  go_enter Try.func11, Try.ntmps11
  go_wp2_with fail
  refine (star7_any w).mono ?_
  rintro e w1 ⟨g, rfl, hown, hg, hB1⟩
  have H1 := hide (And.intro (hown.sl encF_len (Nat.le_refl _)) hB1)
  clear hown hB1 hg
  go_wp2_with fail
  refine (Seal7_as (L := 2) (n := 4) (m := 125) (k := 6) (q := 0) (by omega) (by omega) rfl rfl rfl rfl star_fld star_pch rfl (by omega) star_fits _ _ w1 H1.out.1).mono ?_
  rintro e w2 ⟨gi2, A2, c2, rfl, hF2, hgi2, ho2, hB2⟩
  have H2 := hide (And.intro hF2 (And.intro (H1.out.1.on hB2) (H1.out.2.trans (hB2.mono H1.out.2.size))))
  clear hF2 hgi2 ho2 hB2
  go_upto_region 3 with fail
  obtain ⟨X2, hX2⟩ : ∃ X, X = w2.alloc (.cells #[.int .i64 2, .slice (some ⟨gi2, 0, none⟩) 125 125] 32) := ⟨_, rfl⟩
  rw [← hX2]
  have hb : Below w2.heap.size w2 X2 := by rw [hX2]; exact (Below.refl _ w2).alloc (Nat.le_refl _) _
  have K2 := hide (And.intro (show Blk X2 w2.heap.size 32 #[.int .i64 2, .slice (some ⟨gi2, 0, none⟩) 125 125] by rw [hX2]; exact Blk.new _ _ _) (And.intro (H2.out.1.on hb) (And.intro (H2.out.2.1.on hb) (H2.out.2.2.trans (hb.mono H2.out.2.2.size)))))
  clear hX2 hb
  obtain ⟨n2, hn2⟩ : ∃ n, n = w2.heap.size := ⟨_, rfl⟩
  rw [← hn2] at K2 ⊢
  clear hn2
  go_wp2_with fail
  refine (Seal7_as (L := 2) (n := 4) (m := 125) (k := 5) (q := 1) (by omega) (by omega) rfl rfl rfl rfl tail_fld tail_pch rfl (by omega) tail_fits _ _ X2 (Sl.tail7 K2.out.2.2.1)).mono ?_
  rintro e w3 ⟨gi3, A3, c3, rfl, hF3, hgi3, ho3, hB3⟩
  have H3 := hide (And.intro hF3 (And.intro (ho3.sl encPch_len (Nat.le_refl _)) (And.intro (K2.out.1.on hB3) (And.intro (K2.out.2.1.on hB3) (And.intro (K2.out.2.2.1.on hB3) (K2.out.2.2.2.trans (hB3.mono K2.out.2.2.2.size)))))))
  clear hF3 hgi3 ho3 hB3
  go_upto_region 4 with fail
  obtain ⟨X3, hX3⟩ : ∃ X, X = w3.alloc (.cells #[.int .i64 2, .slice (some ⟨gi3, 0, none⟩) 125 125] 32) := ⟨_, rfl⟩
  rw [← hX3]
  have hb : Below w3.heap.size w3 X3 := by rw [hX3]; exact (Below.refl _ w3).alloc (Nat.le_refl _) _
  have K3 := hide (And.intro (show Blk X3 w3.heap.size 32 #[.int .i64 2, .slice (some ⟨gi3, 0, none⟩) 125 125] by rw [hX3]; exact Blk.new _ _ _) (And.intro (H3.out.1.on hb) (And.intro (H3.out.2.1.on hb) (And.intro (H3.out.2.2.1.on hb) (And.intro (H3.out.2.2.2.1.on hb) (And.intro (H3.out.2.2.2.2.1.on hb) (H3.out.2.2.2.2.2.trans (hb.mono H3.out.2.2.2.2.2.size))))))))
  clear hX3 hb
  obtain ⟨n3, hn3⟩ : ∃ n, n = w3.heap.size := ⟨_, rfl⟩
  rw [← hn3] at K3 ⊢
  clear hn3
  go_wp2_with fail
  refine (Seal7_as (L := 2) (n := 4) (m := 125) (k := 1) (q := 1) (by omega) (by omega) rfl rfl rfl rfl lone_fld HP.out.1 rfl (by omega) lone_fits _ _ _ ((own_one7 (enc := encF) encF_len (Nat.le_refl _) (2, (1, 1, 0))).sl encF_len (Nat.le_refl _))).mono ?_
  rintro e w4 ⟨gi4, A4, c4, rfl, hF4, hgi4, ho4, hB4⟩
  have hB34 : Below X3.heap.size X3 w4 := ((Below.refl _ X3).alloc (Nat.le_refl _) _).trans (hB4.mono (by simp))
  have H4 := hide (And.intro hF4 (And.intro (ho4.sl encPch_len (Nat.le_refl _)) hB34))
  clear hF4 hgi4 ho4 hB4 hB34
  go_upto_region 5 with fail
  obtain ⟨X4, hX4⟩ : ∃ X, X = w4.alloc (.cells #[.int .i64 2, .slice (some ⟨gi4, 0, none⟩) 125 125] 32) := ⟨_, rfl⟩
  rw [← hX4]
  have hb : Below w4.heap.size w4 X4 := by rw [hX4]; exact (Below.refl _ w4).alloc (Nat.le_refl _) _
  have hc : Below X3.heap.size X3 X4 := H4.out.2.2.trans (hb.mono H4.out.2.2.size)
  have hS : SanS w X4 g gi2 n2 gi3 n3 gi4 w4.heap.size A3 A4 p := ⟨K3.out.2.2.2.2.2.1.on hc, K3.out.2.2.2.2.1.on hc, K3.out.2.2.2.1.on hc, K3.out.2.1.on hc, K3.out.1.on hc, H4.out.1.on hb, (by rw [hX4]; exact Blk.new _ _ _), K3.out.2.2.1.on hc, H4.out.2.1.on hb, K3.out.2.2.2.2.2.2.trans (hc.mono K3.out.2.2.2.2.2.2.size)⟩
  obtain ⟨n4, hn4⟩ : ∃ n, n = w4.heap.size := ⟨_, rfl⟩
  rw [← hn4] at hS ⊢
  clear hX4 hb hc hn4
  obtain ⟨a0, a1⟩ := hS.b2.two7
  have S4 := hide hS
  clear hS
  go_wp2_with fail
  refine (only7_any gi2 125 true X4 S4.out.r2).mono ?_
  rintro e w5 ⟨rfl, hB⟩
  obtain ⟨d0, d1⟩ := (S4.out.on hB).b3.two7
  have S5 := hide (S4.out.on hB)
  clear hB a0 a1
  go_wp2_with fail
  refine (only7_any gi3 125 true w5 S5.out.r3).mono ?_
  rintro e w6 ⟨rfl, hB⟩
  obtain ⟨a0, a1⟩ := (S5.out.on hB).b4.two7
  have S6 := hide (S5.out.on hB)
  clear hB d0 d1
  go_wp2_with fail
  refine (only7_any gi4 125 false w6 S6.out.r4).mono ?_
  rintro e w7 ⟨rfl, hB⟩
  have S7 := hide (S6.out.on hB)
  clear hB a0 a1
  go_wp2_with fail
  refine (Odd7_as (k := 6) (m := 0) rfl ((oddV_two _).trans star_odd) rfl (by omega) star_fits _ _ w7 S7.out.star).mono ?_
  rintro e w8 ⟨A8, c8, rfl, _, hB⟩
  have S8 := hide (S7.out.on hB)
  clear hB
  go_wp2_with fail
  refine (samePatches_as 1 [((1, (2, 2, 1)), 2, 1)] rfl _ _ _ _ _ _ _ (S8.out.o3.below ((Below.refl _ w8).alloc (Nat.le_refl _) _)) ((own_one7 (enc := encPch) (e := 47) encPch_len (Nat.le_refl _) ((1, (2, 2, 1)), 2, 1)).sl encPch_len (Nat.le_refl _)) (by simp) pch3_fits).mono ?_
  rintro e w9 ⟨rfl, q9, rfl⟩
  have hB : Below w8.heap.size w8 ((w8.alloc (.cells #[.int .i64 1, .int .i64 2, .int .i64 2, .int .i64 1, .int .i64 2, .int .i64 1] 47)).drewN q9) := below_drewN ((Below.refl _ w8).alloc (Nat.le_refl _) _) q9
  have S9 := hide (S8.out.on hB)
  clear hB
  go_wp2_with fail
  refine (Odd7_as (k := 5) (m := 4) rfl ((oddV_two _).trans tail_oddL) rfl (by omega) tail_fits _ _ _ (Sl.tail7 S9.out.star)).mono ?_
  rintro e wA ⟨AA, cA, rfl, _, hB⟩
  have hS := S9.out.on hB
  obtain ⟨bb, oo, hA4, _, _, _, _, _, _, k5⟩ := hS.o4.six (i := 0) rfl
  subst hA4
  rw [HP.out.2] at k5
  have SA := hide hS
  clear hB hS
  go_wp2_with fail
  go_ret
  exact ⟨rfl, SA.out.bel⟩
end Go.Proofs.Ytdpgohpbannfnaa
