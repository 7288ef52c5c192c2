/- ref08.point, ref08.fan (printed by mk_RefN.py). -/
import Derived.StillTailTactics
import Derived.Deep.DeepCutAuto
import Derived.Deep.CutBlock
import Derived.BigQuiet
import Derived.Deep.QuietTactic
import Derived.Test.YtfljcgehhnmamaaCB12
import Derived.Test.YtfljcgehhnmamaaCB21
import Derived.Test.YtfljcgehhnmamaaCB31
namespace Go.Proofs.Ytfljcgehhnmamaa
open Go.RowKit Go.Sort
theorem small_half3 {x h : Int} (hx : 0 ≤ x ∧ x ≤ 3) (hh : 0 ≤ h ∧ h ≤ 2097152) : 0 ≤ x * (h / 2) ∧ x * (h / 2) ≤ 3145728 := by
  have hc : x = 0 ∨ x = 1 ∨ x = 2 ∨ x = 3 := by omega
  rcases hc with rfl | rfl | rfl | rfl <;> omega
theorem pointE_grid {c p : Pt} {h : Int} (hc : cellOk c h) (hs : h ≤ 1048576) (hp : (0 ≤ p.1 ∧ p.1 ≤ 3) ∧ (0 ≤ p.2.1 ∧ p.2.1 ≤ 3) ∧ (0 ≤ p.2.2 ∧ p.2.2 ≤ 3)) : gridP (pointP c h p) := by
  obtain ⟨hh, ⟨a1, a2⟩, ⟨b1, b2⟩, c1, c2⟩ := hc
  obtain ⟨p0, p1, p2⟩ := hp
  have q : ∀ x : Int, 0 ≤ x ∧ x ≤ 3 → 0 ≤ x * (h / 2) ∧ x * (h / 2) ≤ 2097152 := fun x hx => by
    have hc : x = 0 ∨ x = 1 ∨ x = 2 ∨ x = 3 := by omega
    rcases hc with rfl | rfl | rfl | rfl <;> omega
  have q0 := q _ p0
  have q1 := q _ p1
  have q2 := q _ p2
  unfold gridP pointP
  refine ⟨⟨?_, ?_⟩, ⟨?_, ?_⟩, ?_, ?_⟩ <;> (dsimp only; omega)
set_option maxRecDepth 100000 in
set_option maxHeartbeats 8000000 in
theorem pointE_any (c : Pt) (h : Int) (e : Nat) (he : e < 24) (hc : cellOk c h) (w : World) :
    Calls Try.prog 49 #[vP c, .int .i64 h, .int .i64 e] w fun r w' => r = .returned (vP (pointP c h (placeE e))) ∧ Below w.heap.size w w' := by
  have hv : pointP c h (placeE e) = (c.1 * h + (placeE e).1 * (h / 2), c.2.1 * h + (placeE e).2.1 * (h / 2), c.2.2 * h + (placeE e).2.2 * (h / 2)) := rfl
  have hb := placeE_bd he
  have hp := fun W => place_any e he W
  obtain ⟨p, hpe⟩ : ∃ p, p = placeE e := ⟨_, rfl⟩
  rw [← hpe] at hv hb
  rw [← hpe] at hp
  obtain ⟨r, hr⟩ : ∃ r, r = pointP c h p := ⟨_, rfl⟩
  rw [← hpe, ← hr]
  obtain ⟨hh, ⟨a1, a2⟩, ⟨b1, b2⟩, c1, c2⟩ := hc
  obtain ⟨p0, p1, p2⟩ := hb
  have q0 := small_half3 p0 hh
  have q1 := small_half3 p1 hh
  have q2 := small_half3 p2 hh
  have z2 : IntKind.i64.wrap (h / 2) = h / 2 := IntWalk.i64_in _ (by omega)
  have z5 : h.tdiv 2 = h / 2 := Int.tdiv_eq_ediv_of_nonneg hh.1
  have x1 : IntKind.i64.wrap (c.1 * h) = c.1 * h := IntWalk.i64_in _ (by omega)
  have x2 : IntKind.i64.wrap (p.1 * (h / 2)) = p.1 * (h / 2) := IntWalk.i64_in _ (by omega)
  have x3 : IntKind.i64.wrap (c.1 * h + p.1 * (h / 2)) = c.1 * h + p.1 * (h / 2) := IntWalk.i64_in _ (by omega)
  have y1 : IntKind.i64.wrap (c.2.1 * h) = c.2.1 * h := IntWalk.i64_in _ (by omega)
  have y2 : IntKind.i64.wrap (p.2.1 * (h / 2)) = p.2.1 * (h / 2) := IntWalk.i64_in _ (by omega)
  have y3 : IntKind.i64.wrap (c.2.1 * h + p.2.1 * (h / 2)) = c.2.1 * h + p.2.1 * (h / 2) := IntWalk.i64_in _ (by omega)
  have w1 : IntKind.i64.wrap (c.2.2 * h) = c.2.2 * h := IntWalk.i64_in _ (by omega)
  have w2 : IntKind.i64.wrap (p.2.2 * (h / 2)) = p.2.2 * (h / 2) := IntWalk.i64_in _ (by omega)
  have w3 : IntKind.i64.wrap (c.2.2 * h + p.2.2 * (h / 2)) = c.2.2 * h + p.2.2 * (h / 2) := IntWalk.i64_in _ (by omega)
  have hre : r = (c.1 * h + p.1 * (h / 2), c.2.1 * h + p.2.1 * (h / 2), c.2.2 * h + p.2.2 * (h / 2)) := by rw [hr]; rfl
  have HP := hide hp
  have HV := hide hre
  have HZ := hide (And.intro z2 (And.intro z5 (And.intro x1 (And.intro x2 (And.intro x3 (And.intro y1 (And.intro y2 (And.intro y3 (And.intro w1 (And.intro w2 w3))))))))))
  clear hp hre hr hv hpe p0 p1 p2 q0 q1 q2 a1 a2 b1 b2 c1 c2 z2 z5 x1 x2 x3 y1 y2 y3 w1 w2 w3
  go_enter Try.func49, Try.ntmps49
  go_wp2_with fail
  refine (HP.out _).mono ?_
  rintro e' W1 ⟨rfl, hB1⟩
  obtain ⟨X, hX⟩ : ∃ X, X = (w.alloc (.cells #[.int .i64 c.1, .int .i64 c.2.1, .int .i64 c.2.2] 51)).alloc (.cells #[.int .i64 0, .int .i64 0, .int .i64 0] 38) := ⟨_, rfl⟩
  rw [← hX] at hB1
  have hBX : Below w.heap.size w X := by rw [hX]; exact ((Below.refl _ w).alloc (Nat.le_refl _) _).alloc (by simp) _
  have hzX : X.heap.size = w.heap.size + 2 := by rw [hX]; simp
  have hbc : Blk X w.heap.size 51 #[.int .i64 c.1, .int .i64 c.2.1, .int .i64 c.2.2] := by rw [hX]; exact (Blk.new _ _ _).alloc _
  have hbr : Blk X (w.heap.size + 1) 38 #[.int .i64 0, .int .i64 0, .int .i64 0] := by rw [hX]; exact Blk.new' _ _ _ _ (by simp)
  have hB := hBX.trans (hB1.mono (by omega))
  have hz1 := hB1.size
  have HB := hide (And.intro hB (And.intro (hbc.below hB1 (by omega)) (hbr.below hB1 (by omega))))
  clear hB1 hBX hbc hbr hB hX
  go_upto_region 2 with fail
  obtain ⟨Y, hY⟩ : ∃ Y, Y = W1.alloc (.cells #[.int .i64 p.1, .int .i64 p.2.1, .int .i64 p.2.2] 51) := ⟨_, rfl⟩
  rw [← hY]
  have hbY : Blk Y w.heap.size 51 #[.int .i64 c.1, .int .i64 c.2.1, .int .i64 c.2.2] ∧ Blk Y W1.heap.size 51 #[.int .i64 p.1, .int .i64 p.2.1, .int .i64 p.2.2] ∧ Blk Y (w.heap.size + 1) 38 #[.int .i64 0, .int .i64 0, .int .i64 0] := by rw [hY]; exact ⟨HB.out.2.1.alloc _, Blk.new _ _ _, HB.out.2.2.alloc _⟩
  have hBY : Below w.heap.size w Y := by rw [hY]; exact HB.out.1.alloc (by omega) _
  obtain ⟨u0, u1, u2⟩ := hbY.1.three
  obtain ⟨v0, v1, v2⟩ := hbY.2.1.three
  obtain ⟨r0, r1, r2⟩ := hbY.2.2.three
  have f0 := hbY.2.2.frozen 0
  have f1 := hbY.2.2.frozen 1
  have f2 := hbY.2.2.frozen 2
  have hlY := hbY.2.2.lt
  have HY := hide (And.intro hbY.2.2 hBY)
  obtain ⟨z2, z5, x1, x2, x3, y1, y2, y3, w1, w2, w3⟩ := HZ.out
  clear hY hbY hBY
  go_wp2
  refine ret_at (v := vP r) (fun W => Blk W (w.heap.size + 1) 38 #[.int .i64 r.1, .int .i64 r.2.1, .int .i64 r.2.2]) ?_ (fun W h => ?_) rfl ⟨rfl, ?_⟩
  · rw [HV.out]
    exact HY.out.1.set3 _ _ _
  · obtain ⟨a0, a1, a2⟩ := h.three
    simp [results, Try.results49, go_sem, a0, a1, a2]
  · exact ((HY.out.2.setCell (by dsimp only; omega) _).setCell (by dsimp only; omega) _).setCell (by dsimp only; omega) _
set_option maxRecDepth 100000 in
set_option maxHeartbeats 8000000 in
theorem fanE_three (b o c : Nat) (p q r : Pt) (w : World) (hs : Sl encP 3 w w.heap.size (some ⟨b, o, none⟩) [p, q, r]) :
    Calls Try.prog 50 #[.slice (some ⟨b, o, none⟩) 3 c] w fun e w' => ∃ v, e = .returned v ∧ Own encT 9 40 w' w.heap.size v 1 [(p, q, r)] ∧ Below w.heap.size w w' := by
  obtain ⟨p0, p1, p2⟩ := hs.pt (i := 0) (p := p) rfl
  obtain ⟨q0, q1, q2⟩ := hs.pt (i := 1) (p := q) rfl
  obtain ⟨r0, r1, r2⟩ := hs.pt (i := 2) (p := r) rfl
  simp only [Nat.zero_mul, Nat.one_mul, Nat.add_zero, Nat.reduceMul] at p0 p1 p2 q0 q1 q2 r0 r1 r2
  have hS : (w.drew.cell? ⟨b, o, none⟩ = some (.int .i64 p.1) ∧ w.drew.cell? ⟨b, o + 1, none⟩ = some (.int .i64 p.2.1) ∧ w.drew.cell? ⟨b, o + 2, none⟩ = some (.int .i64 p.2.2)) ∧ (w.drew.cell? ⟨b, o + 3, none⟩ = some (.int .i64 q.1) ∧ w.drew.cell? ⟨b, o + 3 + 1, none⟩ = some (.int .i64 q.2.1) ∧ w.drew.cell? ⟨b, o + 3 + 2, none⟩ = some (.int .i64 q.2.2)) ∧ (w.drew.cell? ⟨b, o + 6, none⟩ = some (.int .i64 r.1) ∧ w.drew.cell? ⟨b, o + 6 + 1, none⟩ = some (.int .i64 r.2.1) ∧ w.drew.cell? ⟨b, o + 6 + 2, none⟩ = some (.int .i64 r.2.2)) := ⟨⟨p0, p1, p2⟩, ⟨q0, q1, q2⟩, r0, r1, r2⟩
  have HS := hide hS
  clear hS p0 p1 p2 q0 q1 q2 r0 r1 r2 hs
  go_enter Try.func50, Try.ntmps50
  go_wp2_with fail
  refine wp_region_mix (fun W => (W.cell? ⟨b, o, none⟩ = some (.int .i64 p.1) ∧ W.cell? ⟨b, o + 1, none⟩ = some (.int .i64 p.2.1) ∧ W.cell? ⟨b, o + 2, none⟩ = some (.int .i64 p.2.2)) ∧ (W.cell? ⟨b, o + 3, none⟩ = some (.int .i64 q.1) ∧ W.cell? ⟨b, o + 3 + 1, none⟩ = some (.int .i64 q.2.1) ∧ W.cell? ⟨b, o + 3 + 2, none⟩ = some (.int .i64 q.2.2)) ∧ (W.cell? ⟨b, o + 6, none⟩ = some (.int .i64 r.1) ∧ W.cell? ⟨b, o + 6 + 1, none⟩ = some (.int .i64 r.2.1) ∧ W.cell? ⟨b, o + 6 + 2, none⟩ = some (.int .i64 r.2.2))) [0, 1, 2, 3, 4, 5, 6, 7, 8, 9] [0, 1, 2, 3, 4, 5, 6, 7, 8, 9, 10, 11] mixed_ok (by kernel_rfl) ?_
  refine wpMix_q (v := .slice (some ⟨b, o, none⟩) 3 c) rfl rfl (fun _ _ _ h => h) HS.out ⟨rfl, fun _ _ => by simp [go_sem]⟩ ?_
  refine wpMix_q (v := .pointer (some ⟨b, o, none⟩)) rfl rfl (fun _ _ _ h => h) HS.out ⟨rfl, fun _ _ => by simp [go_sem]⟩ ?_
  refine wpMix_q (v := vP p) rfl rfl (fun _ _ _ h => h) HS.out ⟨rfl, fun _ h' => by obtain ⟨⟨a0, a1, a2⟩, _⟩ := h'; simp [go_sem, a0, a1, a2]⟩ ?_
  refine wpMix_q (v := .slice (some ⟨b, o, none⟩) 3 c) rfl rfl (fun _ _ _ h => h) HS.out ⟨rfl, fun _ _ => by simp [go_sem]⟩ ?_
  refine wpMix_q (v := .pointer (some ⟨b, o + 3, none⟩)) rfl rfl (fun _ _ _ h => h) HS.out ⟨rfl, fun _ _ => by simp [go_sem]⟩ ?_
  refine wpMix_q (v := vP q) rfl rfl (fun _ _ _ h => h) HS.out ⟨rfl, fun _ h' => by obtain ⟨_, ⟨a0, a1, a2⟩, _⟩ := h'; simp [go_sem, a0, a1, a2]⟩ ?_
  refine wpMix_q (v := .slice (some ⟨b, o, none⟩) 3 c) rfl rfl (fun _ _ _ h => h) HS.out ⟨rfl, fun _ _ => by simp [go_sem]⟩ ?_
  refine wpMix_q (v := .pointer (some ⟨b, o + 6, none⟩)) rfl rfl (fun _ _ _ h => h) HS.out ⟨rfl, fun _ _ => by simp [go_sem]⟩ ?_
  refine wpMix_q (v := vP r) rfl rfl (fun _ _ _ h => h) HS.out ⟨rfl, fun _ h' => by obtain ⟨_, _, a0, a1, a2⟩ := h'; simp [go_sem, a0, a1, a2]⟩ ?_
  refine wpMix_q (v := vT (p, q, r)) rfl rfl (fun _ _ _ h => h) HS.out ⟨rfl, fun _ _ => by simp [go_sem]⟩ ?_
  refine wpMix_tail _ [_, _] (by kernel_rfl) rfl ?_
  simp only [List.getElem_toArray, List.getElem_cons_succ, List.getElem_cons_zero]
  go_wp2
  go_ret
  refine ⟨_, rfl, ?_, ((Below.refl _ w).alloc (Nat.le_refl _) _).drew⟩
  exact (show Own encT 9 40 (w.alloc (.cells (encT (p, q, r)).toArray 40)) w.heap.size (.slice (some ⟨w.heap.size, 0, none⟩) 1 1) 1 [(p, q, r)] from ⟨rfl, by simpa using World.ownsRow_lit (e := 40) (size := 9) w (encT (p, q, r)).toArray 1 (Nat.le_refl _) (by unfold maxLen; omega) (by simp [encT])⟩)
set_option maxRecDepth 100000 in
set_option maxHeartbeats 16000000 in
theorem fanE_many (b o c : Nat) (ps : List Pt) (w : World) (hs : Sl encP 3 w w.heap.size (some ⟨b, o, none⟩) ps) (h0 : 0 < ps.length) (h3 : ps.length ≠ 3) (hl : ps.length ≤ 100) (hg : ∀ p ∈ ps, gridP p) :
    Calls Try.prog 50 #[.slice (some ⟨b, o, none⟩) ps.length c] w fun e w' => ∃ v, e = .returned v ∧ Own encT 9 40 w' w.heap.size v ps.length (fanN ps ps.length) ∧ Below w.heap.size w w' := by
  have hbd := sumP_bd ps hg
  have hcb := ctr_grid ps hg h0
  have hctr : ctrP ps = ((sumP ps).1 / ps.length, (sumP ps).2.1 / ps.length, (sumP ps).2.2 / ps.length) := rfl
  obtain ⟨m, hm⟩ : ∃ m, m = ps.length := ⟨_, rfl⟩
  have t3 : ((m : Int) == 3) = false := by simp; omega
  have t0 : ((m : Int) == 0) = false := by simp; omega
  have hm0 : 0 < m := by omega
  have hm1 : m ≤ 100 := by omega
  have HP := hide (And.intro hs (And.intro hg (And.intro hbd (And.intro hcb (And.intro hctr hm)))))
  rw [← hm]
  clear hs hg hbd hcb hctr hm h0 h3 hl
  go_enter Try.func50, Try.ntmps50
  go_wp2
  have hz0 : Blk (w.alloc (.cells #[.int .i64 0, .int .i64 0, .int .i64 0] 38)) w.heap.size 38 #[.int .i64 0, .int .i64 0, .int .i64 0] := Blk.new _ _ _
  go_loopw [4] (fun iv wr => ∃ k : Nat, k ≤ m ∧ iv = .int .i64 k ∧ Blk wr w.heap.size 38 #[.int .i64 (sumP (ps.take k)).1, .int .i64 (sumP (ps.take k)).2.1, .int .i64 (sumP (ps.take k)).2.2] ∧ Below w.heap.size w wr) (fun iv _ => m - (intOf iv).toNat)
  case atStart => exact ⟨0, by omega, rfl, by simpa [sumP] using hz0, (Below.refl _ w).alloc (Nat.le_refl _) _⟩
  case round =>
    obtain ⟨k, hk, rfl, hbs, hB⟩ := hrel
    obtain ⟨R, rfl⟩ : ∃ R, R = wr := ⟨_, rfl⟩
    have hbk := HP.out.2.2.1 k (by rw [← HP.out.2.2.2.2.2]; exact hk)
    by_cases hlt : k < m
    · obtain ⟨p, hp⟩ : ∃ p, ps[k]? = some p := ⟨_, List.getElem?_eq_getElem (by rw [← HP.out.2.2.2.2.2]; exact hlt)⟩
      have hgp := HP.out.2.1 p (List.mem_of_getElem? hp)
      have hst := sumP_take ps k p hp
      have hpr : ∀ V, Below w.heap.size w V → _ := fun V (hV : Below w.heap.size w V) => (HP.out.1.below hV).pt hp
      have hblt : b < w.heap.size := by
        obtain ⟨b', o', ha, hb, _⟩ := HP.out.1.at hp
        cases ha
        exact hb
      obtain ⟨s, hsd⟩ : ∃ s, s = sumP (ps.take k) := ⟨_, rfl⟩
      rw [← hsd] at hbk hst hbs
      obtain ⟨⟨a1, a2⟩, ⟨b1, b2⟩, c1, c2⟩ := hbk
      obtain ⟨⟨d1, d2⟩, ⟨e1, e2⟩, g1, g2⟩ := hgp
      have z0 : IntKind.i64.wrap (s.1 + p.1) = s.1 + p.1 := IntWalk.i64_in _ (by omega)
      have z1 : IntKind.i64.wrap (s.2.1 + p.2.1) = s.2.1 + p.2.1 := IntWalk.i64_in _ (by omega)
      have z2 : IntKind.i64.wrap (s.2.2 + p.2.2) = s.2.2 + p.2.2 := IntWalk.i64_in _ (by omega)
      have hltw := hbs.lt
      have i1 : (k : Int) < (m : Int) := by omega
      have HR := hide (And.intro hbs (And.intro hB (And.intro hst (And.intro hpr hblt))))
      have HZ := hide (And.intro z0 (And.intro z1 z2))
      clear hbs hB hst hp hsd hpr hblt z0 z1 z2 a1 a2 b1 b2 c1 c2 d1 d2 e1 e2 g1 g2
      go_upto_region 7 with fail
      obtain ⟨s0, s1, s2⟩ := HR.out.1.three
      obtain ⟨p0, p1, p2⟩ := HR.out.2.2.2.1 _ HR.out.2.1
      have f0 := HR.out.1.frozen 0
      have z0 := HZ.out.1
      go_still_tail 9, (by kernel_rfl)
      change wpList _ _ _ _ _ R.drew
      go_upto_region 8 with fail
      obtain ⟨U1, hU1⟩ : ∃ U, U = (R.setCell ⟨w.heap.size, 0, none⟩ (.int .i64 (s.1 + p.1))).drew := ⟨_, rfl⟩
      rw [← hU1]
      have hb1 : Blk U1 w.heap.size 38 #[.int .i64 (s.1 + p.1), .int .i64 s.2.1, .int .i64 s.2.2] := by rw [hU1]; exact (HR.out.1.set_ 0 _).drew
      have hB1 : Below w.heap.size w U1 := by rw [hU1]; exact (HR.out.2.1.setCell (Nat.le_refl _) _).drew
      have hl1 := hb1.lt
      have H1 := hide (And.intro hb1 hB1)
      clear hU1 hb1 hB1 s0 s1 s2 p0 p1 p2 f0 z0
      obtain ⟨s0, s1, s2⟩ := H1.out.1.three
      obtain ⟨p0, p1, p2⟩ := HR.out.2.2.2.1 _ H1.out.2
      have f1 := H1.out.1.frozen 1
      have z1 := HZ.out.2.1
      go_still_tail 9, (by kernel_rfl)
      change wpList _ _ _ _ _ U1.drew
      go_upto_region 9 with fail
      obtain ⟨U2, hU2⟩ : ∃ U, U = (U1.setCell ⟨w.heap.size, 1, none⟩ (.int .i64 (s.2.1 + p.2.1))).drew := ⟨_, rfl⟩
      rw [← hU2]
      have hb2 : Blk U2 w.heap.size 38 #[.int .i64 (s.1 + p.1), .int .i64 (s.2.1 + p.2.1), .int .i64 s.2.2] := by rw [hU2]; exact (H1.out.1.set_ 1 _).drew
      have hB2 : Below w.heap.size w U2 := by rw [hU2]; exact (H1.out.2.setCell (Nat.le_refl _) _).drew
      have hl2 := hb2.lt
      have H2 := hide (And.intro hb2 hB2)
      clear hU2 hb2 hB2 s0 s1 s2 p0 p1 p2 f1 z1
      obtain ⟨s0, s1, s2⟩ := H2.out.1.three
      obtain ⟨p0, p1, p2⟩ := HR.out.2.2.2.1 _ H2.out.2
      have f2 := H2.out.1.frozen 2
      have z2 := HZ.out.2.2
      go_still_tail 9, (by kernel_rfl)
      change wpList _ _ _ _ _ U2.drew
      go_wp2
      go_roundw
      case rel =>
        refine ⟨k + 1, by omega, by go_num, ?_, ?_⟩
        · rw [HR.out.2.2.1]
          exact (H2.out.1.set_ 2 _).drew
        · exact (H2.out.2.setCell (Nat.le_refl _) _).drew
      case measure => simp [intOf]; omega
    · have hke : k = m := by omega
      subst hke
      have hall : ps.take k = ps := List.take_of_length_le (by rw [← HP.out.2.2.2.2.2]; exact Nat.le_refl _)
      rw [hall] at hbs hbk
      obtain ⟨s, hsd⟩ : ∃ s, s = sumP ps := ⟨_, rfl⟩
      rw [← hsd] at hbs hbk
      have hctr : ctrP ps = (s.1 / k, s.2.1 / k, s.2.2 / k) := by rw [HP.out.2.2.2.2.1, ← hsd, ← HP.out.2.2.2.2.2]
      obtain ⟨⟨a1, a2⟩, ⟨b1, b2⟩, c1, c2⟩ := hbk
      have hcb := HP.out.2.2.2.1
      rw [hctr] at hcb
      obtain ⟨⟨d1, d2⟩, ⟨e1, e2⟩, g1, g2⟩ := hcb
      have u1 : s.1.tdiv k = s.1 / k := Int.tdiv_eq_ediv_of_nonneg a1
      have u2 : s.2.1.tdiv k = s.2.1 / k := Int.tdiv_eq_ediv_of_nonneg b1
      have u3 : s.2.2.tdiv k = s.2.2 / k := Int.tdiv_eq_ediv_of_nonneg c1
      have v1 : IntKind.i64.wrap (s.1 / (k : Int)) = s.1 / (k : Int) := IntWalk.i64_in _ (by dsimp only at d1 d2; omega)
      have v2 : IntKind.i64.wrap (s.2.1 / (k : Int)) = s.2.1 / (k : Int) := IntWalk.i64_in _ (by dsimp only at e1 e2; omega)
      have v3 : IntKind.i64.wrap (s.2.2 / (k : Int)) = s.2.2 / (k : Int) := IntWalk.i64_in _ (by dsimp only at g1 g2; omega)
      obtain ⟨q, hq⟩ : ∃ q : Pt, q = (s.1 / (k : Int), s.2.1 / (k : Int), s.2.2 / (k : Int)) := ⟨_, rfl⟩
      have hS : R.drew.cell? ⟨w.heap.size, 0, none⟩ = some (.int .i64 s.1) ∧ R.drew.cell? ⟨w.heap.size, 1, none⟩ = some (.int .i64 s.2.1) ∧ R.drew.cell? ⟨w.heap.size, 2, none⟩ = some (.int .i64 s.2.2) := hbs.three
      have HR := hide (And.intro hbs (And.intro hB (And.intro hctr (And.intro hS hq))))
      have HU := hide (And.intro u1 (And.intro u2 (And.intro u3 (And.intro v1 (And.intro v2 v3)))))
      have f0 := hbs.frozen 0
      have f1 := hbs.frozen 1
      have f2 := hbs.frozen 2
      have hkn : k ≠ 0 := by omega
      obtain ⟨s0, s1, s2⟩ := hbs.three
      clear hbs hB hctr hS hsd u1 u2 u3 v1 v2 v3 hall d1 d2 e1 e2 g1 g2 a1 a2 b1 b2 c1 c2 hq
      go_wp2_with fail
      refine wp_region_mix (fun W => W.cell? ⟨w.heap.size, 0, none⟩ = some (.int .i64 s.1) ∧ W.cell? ⟨w.heap.size, 1, none⟩ = some (.int .i64 s.2.1) ∧ W.cell? ⟨w.heap.size, 2, none⟩ = some (.int .i64 s.2.2)) [0, 1, 2, 3, 4, 5, 6, 7, 8, 9, 10, 11, 12, 13, 14, 15] [0, 1, 2, 3, 4, 5, 6, 7, 8, 9, 10, 11, 12, 13, 14, 15, 16] mixed_ok (by kernel_rfl) ?_
      refine wpMix_q (v := .pointer (some ⟨w.heap.size, 0, none⟩)) rfl rfl (fun _ _ _ h => h) HR.out.2.2.2.1 ⟨rfl, fun _ _ => by simp [go_sem]⟩ ?_
      refine wpMix_q (v := .int .i64 s.1) rfl rfl (fun _ _ _ h => h) HR.out.2.2.2.1 ⟨rfl, fun _ h' => by simp [go_sem, h'.1]⟩ ?_
      refine wpMix_q (v := .slice (some ⟨b, o, none⟩) k c) rfl rfl (fun _ _ _ h => h) HR.out.2.2.2.1 ⟨rfl, fun _ _ => by simp [go_sem]⟩ ?_
      refine wpMix_q (v := .int .i64 k) rfl rfl (fun _ _ _ h => h) HR.out.2.2.2.1 ⟨rfl, fun _ _ => by simp [go_sem, Builtin.lenOf]⟩ ?_
      refine wpMix_q (v := .int .i64 (s.1 / (k : Int))) rfl rfl (fun _ _ _ h => h) HR.out.2.2.2.1 ⟨rfl, fun _ _ => by simp [go_sem, hkn, HU.out.1, HU.out.2.2.2.1]⟩ ?_
      refine wpMix_q (v := .pointer (some ⟨w.heap.size, 1, none⟩)) rfl rfl (fun _ _ _ h => h) HR.out.2.2.2.1 ⟨rfl, fun _ _ => by simp [go_sem]⟩ ?_
      refine wpMix_q (v := .int .i64 s.2.1) rfl rfl (fun _ _ _ h => h) HR.out.2.2.2.1 ⟨rfl, fun _ h' => by simp [go_sem, h'.2.1]⟩ ?_
      refine wpMix_q (v := .slice (some ⟨b, o, none⟩) k c) rfl rfl (fun _ _ _ h => h) HR.out.2.2.2.1 ⟨rfl, fun _ _ => by simp [go_sem]⟩ ?_
      refine wpMix_q (v := .int .i64 k) rfl rfl (fun _ _ _ h => h) HR.out.2.2.2.1 ⟨rfl, fun _ _ => by simp [go_sem, Builtin.lenOf]⟩ ?_
      refine wpMix_q (v := .int .i64 (s.2.1 / (k : Int))) rfl rfl (fun _ _ _ h => h) HR.out.2.2.2.1 ⟨rfl, fun _ _ => by simp [go_sem, hkn, HU.out.2.1, HU.out.2.2.2.2.1]⟩ ?_
      refine wpMix_q (v := .pointer (some ⟨w.heap.size, 2, none⟩)) rfl rfl (fun _ _ _ h => h) HR.out.2.2.2.1 ⟨rfl, fun _ _ => by simp [go_sem]⟩ ?_
      refine wpMix_q (v := .int .i64 s.2.2) rfl rfl (fun _ _ _ h => h) HR.out.2.2.2.1 ⟨rfl, fun _ h' => by simp [go_sem, h'.2.2]⟩ ?_
      refine wpMix_q (v := .slice (some ⟨b, o, none⟩) k c) rfl rfl (fun _ _ _ h => h) HR.out.2.2.2.1 ⟨rfl, fun _ _ => by simp [go_sem]⟩ ?_
      refine wpMix_q (v := .int .i64 k) rfl rfl (fun _ _ _ h => h) HR.out.2.2.2.1 ⟨rfl, fun _ _ => by simp [go_sem, Builtin.lenOf]⟩ ?_
      refine wpMix_q (v := .int .i64 (s.2.2 / (k : Int))) rfl rfl (fun _ _ _ h => h) HR.out.2.2.2.1 ⟨rfl, fun _ _ => by simp [go_sem, hkn, HU.out.2.2.1, HU.out.2.2.2.2.2]⟩ ?_
      refine wpMix_q (v := vP (s.1 / (k : Int), s.2.1 / (k : Int), s.2.2 / (k : Int))) rfl rfl (fun _ _ _ h => h) HR.out.2.2.2.1 ⟨rfl, fun _ _ => by simp [go_sem]⟩ ?_
      refine wpMix_tail _ [_] (by kernel_rfl) rfl ?_
      simp only [List.getElem_toArray, List.getElem_cons_succ, List.getElem_cons_zero]
      go_wp2_with fail
      clear s0 s1 s2 f0 f1 f2
      obtain ⟨Y, hY⟩ : ∃ Y, Y = (((R.setCell ⟨w.heap.size, 0, none⟩ (.int .i64 (s.1 / (k : Int)))).setCell ⟨w.heap.size, 1, none⟩ (.int .i64 (s.2.1 / (k : Int)))).setCell ⟨w.heap.size, 2, none⟩ (.int .i64 (s.2.2 / (k : Int)))).drew := ⟨_, rfl⟩
      rw [← hY]
      have hYb : Blk Y w.heap.size 38 #[.int .i64 q.1, .int .i64 q.2.1, .int .i64 q.2.2] := by rw [hY, HR.out.2.2.2.2]; exact (HR.out.1.set3 _ _ _).drew
      have hYB : Below w.heap.size w Y := by rw [hY]; exact (((HR.out.2.1.setCell (Nat.le_refl _) _).setCell (Nat.le_refl _) _).setCell (Nat.le_refl _) _).drew
      have hcq : ctrP ps = q := by rw [HR.out.2.2.1, HR.out.2.2.2.2]
      have hltY := hYb.lt
      have HY := hide (And.intro hYb (And.intro hYB hcq))
      clear hYb hYB hcq hY HU t0
      clear HR hkn hlt hk
      go_loopw [5, 6] (fun ov iv wx => ∃ j : Nat, j ≤ k ∧ iv = .int .i64 j ∧ Own encT 9 40 wx Y.heap.size ov j (fanN ps j) ∧ Below Y.heap.size Y wx) (fun _ iv _ => k - (intOf iv).toNat)
      case atStart => exact ⟨0, by omega, rfl, Own.nil, Below.refl _ Y⟩
      case round =>
        obtain ⟨j, hj, rfl, hown, hBx⟩ := hrel
        obtain ⟨Ao, co, rfl⟩ := hown.form
        have hszx := hBx.size
        by_cases hlj : j < k
        · obtain ⟨p, hp⟩ : ∃ p, ps[j]? = some p := ⟨_, List.getElem?_eq_getElem (by rw [← HP.out.2.2.2.2.2]; exact hlj)⟩
          obtain ⟨r, hr⟩ : ∃ r, r = (j + 1) % k := ⟨_, rfl⟩
          have hrm : r < k := by rw [hr]; exact Nat.mod_lt _ hm0
          obtain ⟨x, hx⟩ : ∃ x, ps[r]? = some x := ⟨_, List.getElem?_eq_getElem (by rw [← HP.out.2.2.2.2.2]; exact hrm)⟩
          have hBw : Below w.heap.size w wr := HY.out.2.1.trans (hBx.mono HY.out.2.1.size)
          have hsr := HP.out.1.below hBw
          obtain ⟨p0, p1, p2⟩ := hsr.pt hp
          obtain ⟨x0, x1, x2⟩ := hsr.pt hx
          have hblt : b < w.heap.size := by
            obtain ⟨b', o', ha, hb, _⟩ := HP.out.1.at hp
            cases ha
            exact hb
          have hbq := HY.out.1.below hBx hltY
          have hfs := fanN_succ ps j
          rw [nthP_get hp, HY.out.2.2, ← HP.out.2.2.2.2.2, ← hr, nthP_get hx] at hfs
          have w1 : IntKind.i64.wrap ((j : Int) + 1) = (j : Int) + 1 := IntWalk.i64_in _ (by omega)
          have t1 : ((j : Int) + 1).tmod (k : Int) = (r : Int) := by
            rw [Int.tmod_eq_emod_of_nonneg (by omega), hr]
            exact (Int.natCast_emod (j + 1) k).symm
          have wr1 : IntKind.i64.wrap (r : Int) = (r : Int) := IntWalk.i64_in _ (by omega)
          have i1 : (j : Int) < (k : Int) := by omega
          have i2 : (r : Int) < (k : Int) := by omega
          have j2 : (0 : Int) ≤ (r : Int) := by omega
          have hmn : k ≠ 0 := by omega
          obtain ⟨R', hRe⟩ : ∃ R, R = wr := ⟨_, rfl⟩
          rw [← hRe] at hown hBx hBw p0 p1 p2 x0 x1 x2 hbq hszx
          have hS : (R'.drew.cell? ⟨b, o + j * 3, none⟩ = some (.int .i64 p.1) ∧ R'.drew.cell? ⟨b, o + j * 3 + 1, none⟩ = some (.int .i64 p.2.1) ∧ R'.drew.cell? ⟨b, o + j * 3 + 2, none⟩ = some (.int .i64 p.2.2)) ∧ (R'.drew.cell? ⟨b, o + r * 3, none⟩ = some (.int .i64 x.1) ∧ R'.drew.cell? ⟨b, o + r * 3 + 1, none⟩ = some (.int .i64 x.2.1) ∧ R'.drew.cell? ⟨b, o + r * 3 + 2, none⟩ = some (.int .i64 x.2.2)) ∧ (R'.drew.cell? ⟨w.heap.size, 0, none⟩ = some (.int .i64 q.1) ∧ R'.drew.cell? ⟨w.heap.size, 1, none⟩ = some (.int .i64 q.2.1) ∧ R'.drew.cell? ⟨w.heap.size, 2, none⟩ = some (.int .i64 q.2.2)) :=
            ⟨⟨p0, p1, p2⟩, ⟨x0, x1, x2⟩, hbq.three⟩
          have hSA : ∀ ob, ((R'.alloc ob).drew.cell? ⟨b, o + j * 3, none⟩ = some (.int .i64 p.1) ∧ (R'.alloc ob).drew.cell? ⟨b, o + j * 3 + 1, none⟩ = some (.int .i64 p.2.1) ∧ (R'.alloc ob).drew.cell? ⟨b, o + j * 3 + 2, none⟩ = some (.int .i64 p.2.2)) ∧ ((R'.alloc ob).drew.cell? ⟨b, o + r * 3, none⟩ = some (.int .i64 x.1) ∧ (R'.alloc ob).drew.cell? ⟨b, o + r * 3 + 1, none⟩ = some (.int .i64 x.2.1) ∧ (R'.alloc ob).drew.cell? ⟨b, o + r * 3 + 2, none⟩ = some (.int .i64 x.2.2)) ∧ ((R'.alloc ob).drew.cell? ⟨w.heap.size, 0, none⟩ = some (.int .i64 q.1) ∧ (R'.alloc ob).drew.cell? ⟨w.heap.size, 1, none⟩ = some (.int .i64 q.2.1) ∧ (R'.alloc ob).drew.cell? ⟨w.heap.size, 2, none⟩ = some (.int .i64 q.2.2)) := fun ob => by
            have hal : Below R'.heap.size R' (R'.alloc ob) := (Below.refl _ R').alloc (Nat.le_refl _) _
            have hzb : b < R'.heap.size := Nat.lt_of_lt_of_le hblt hBw.size
            have hbq' := (hbq.below hal hbq.lt).three
            exact ⟨⟨(hal.cell (p := ⟨b, _, none⟩) hzb).trans p0, (hal.cell (p := ⟨b, _, none⟩) hzb).trans p1, (hal.cell (p := ⟨b, _, none⟩) hzb).trans p2⟩, ⟨(hal.cell (p := ⟨b, _, none⟩) hzb).trans x0, (hal.cell (p := ⟨b, _, none⟩) hzb).trans x1, (hal.cell (p := ⟨b, _, none⟩) hzb).trans x2⟩, hbq'⟩
          have hownX : Own encT 9 40 (R'.alloc (.cells (encT (p, x, q)).toArray 40)).drew Y.heap.size (.slice Ao j co) j (fanN ps j) := (show Own encT 9 40 (R'.alloc (.cells (encT (p, x, q)).toArray 40)) Y.heap.size (.slice Ao j co) j (fanN ps j) from hown.alloc _)
          have HQ := hide (And.intro hS (And.intro hownX (And.intro hfs (And.intro hBx hSA))))
          have HW := hide (And.intro w1 (And.intro t1 wr1))
          clear hS hSA hownX hfs hown hBx hBw hbq hsr hp hx hr w1 t1 wr1
          subst hRe
          go_wp2_with fail
          clear p0 p1 p2 x0 x1 x2
          refine wp_region_mix (fun W => (W.cell? ⟨b, o + j * 3, none⟩ = some (.int .i64 p.1) ∧ W.cell? ⟨b, o + j * 3 + 1, none⟩ = some (.int .i64 p.2.1) ∧ W.cell? ⟨b, o + j * 3 + 2, none⟩ = some (.int .i64 p.2.2)) ∧ (W.cell? ⟨b, o + r * 3, none⟩ = some (.int .i64 x.1) ∧ W.cell? ⟨b, o + r * 3 + 1, none⟩ = some (.int .i64 x.2.1) ∧ W.cell? ⟨b, o + r * 3 + 2, none⟩ = some (.int .i64 x.2.2)) ∧ (W.cell? ⟨w.heap.size, 0, none⟩ = some (.int .i64 q.1) ∧ W.cell? ⟨w.heap.size, 1, none⟩ = some (.int .i64 q.2.1) ∧ W.cell? ⟨w.heap.size, 2, none⟩ = some (.int .i64 q.2.2))) [0, 1, 2, 3, 4, 5, 6, 7, 8, 9, 10, 11, 12, 13, 14] [0, 1, 2, 3, 4, 5, 6, 7, 8, 9, 10, 11, 12, 13, 14, 15, 16, 17] mixed_ok (by kernel_rfl) ?_
          refine wpMix_q (v := .slice Ao j co) rfl rfl (fun _ _ _ h => h) HQ.out.1 ⟨rfl, fun _ _ => by simp [go_sem]⟩ ?_
          refine wpMix_q (v := .slice (some ⟨b, o, none⟩) k c) rfl rfl (fun _ _ _ h => h) HQ.out.1 ⟨rfl, fun _ _ => by simp [go_sem]⟩ ?_
          refine wpMix_q (v := .int .i64 j) rfl rfl (fun _ _ _ h => h) HQ.out.1 ⟨rfl, fun _ _ => by simp [go_sem]⟩ ?_
          refine wpMix_q (v := .pointer (some ⟨b, o + j * 3, none⟩)) rfl rfl (fun _ _ _ h => h) HQ.out.1 ⟨rfl, fun _ _ => by simp [go_sem, i1]⟩ ?_
          refine wpMix_q (v := vP p) rfl rfl (fun _ _ _ h => h) HQ.out.1 ⟨rfl, fun _ h' => by obtain ⟨⟨a0, a1, a2⟩, _⟩ := h'; simp [go_sem, a0, a1, a2]⟩ ?_
          refine wpMix_q (v := .slice (some ⟨b, o, none⟩) k c) rfl rfl (fun _ _ _ h => h) HQ.out.1 ⟨rfl, fun _ _ => by simp [go_sem]⟩ ?_
          refine wpMix_q (v := .int .i64 j) rfl rfl (fun _ _ _ h => h) HQ.out.1 ⟨rfl, fun _ _ => by simp [go_sem]⟩ ?_
          refine wpMix_q (v := .int .i64 ((j : Int) + 1)) rfl rfl (fun _ _ _ h => h) HQ.out.1 ⟨rfl, fun _ _ => by simp [go_sem, HW.out.1]⟩ ?_
          refine wpMix_q (v := .slice (some ⟨b, o, none⟩) k c) rfl rfl (fun _ _ _ h => h) HQ.out.1 ⟨rfl, fun _ _ => by simp [go_sem]⟩ ?_
          refine wpMix_q (v := .int .i64 k) rfl rfl (fun _ _ _ h => h) HQ.out.1 ⟨rfl, fun _ _ => by simp [go_sem, Builtin.lenOf]⟩ ?_
          refine wpMix_q (v := .int .i64 r) rfl rfl (fun _ _ _ h => h) HQ.out.1 ⟨rfl, fun _ _ => by simp [go_sem, hmn, HW.out.2.1]⟩ ?_
          refine wpMix_q (v := .pointer (some ⟨b, o + r * 3, none⟩)) rfl rfl (fun _ _ _ h => h) HQ.out.1 ⟨rfl, fun _ _ => by simp [go_sem, i2, j2]⟩ ?_
          refine wpMix_q (v := vP x) rfl rfl (fun _ _ _ h => h) HQ.out.1 ⟨rfl, fun _ h' => by obtain ⟨_, ⟨a0, a1, a2⟩, _⟩ := h'; simp [go_sem, a0, a1, a2]⟩ ?_
          refine wpMix_q (v := vP q) rfl rfl (fun _ _ _ h => h) HQ.out.1 ⟨rfl, fun _ h' => by obtain ⟨_, _, a0, a1, a2⟩ := h'; simp [go_sem, a0, a1, a2]⟩ ?_
          refine wpMix_q (v := vT (p, x, q)) rfl rfl (fun _ _ _ h => h) HQ.out.1 ⟨rfl, fun _ _ => by simp [go_sem]⟩ ?_
          refine wpMix_n rfl rfl ?_
          go_wp2_with fail
          refine ⟨fun _ => HQ.out.2.2.2.2 _, ?_⟩
          refine wpMix_tail _ [_, _] (by kernel_rfl) rfl ?_
          simp only [List.getElem_toArray, List.getElem_cons_succ, List.getElem_cons_zero]
          go_wp2_with (at_builtin; refine wpList_append1 rfl _ _ _ rfl Try.underlying29 infoT8 rfl (by omega) encT_len8 encT_one8 rfl HQ.out.2.1 R'.heap.size 1 (p, x, q) rfl (Blk.new' _ _ _ _ rfl).drew (by unfold maxLen; omega) (by omega) (by simp [World.drew]; omega) ?_; intro g cap w5 hown5 hg5 hB5 hat5 hgb5 hlt5)
          go_roundw
          case rel =>
            refine ⟨j + 1, by omega, by go_num, ?_, ?_⟩
            · rw [HQ.out.2.2.1]
              exact hown5
            · exact (((HQ.out.2.2.2.1).alloc (by omega) _).drew).trans hB5
          case measure => simp [intOf]; omega
        · have hje : j = k := by omega
          subst hje
          have HE := hide (And.intro (hown.base_le HY.out.2.1.size) (HY.out.2.1.trans (hBx.mono HY.out.2.1.size)))
          clear hown hBx
          go_wp2
          go_ret
          exact ⟨_, rfl, HE.out.1, HE.out.2⟩
theorem fanE_any (b o c : Nat) (ps : List Pt) (w : World) (hs : Sl encP 3 w w.heap.size (some ⟨b, o, none⟩) ps) (h0 : 0 < ps.length) (hl : ps.length ≤ 100) (hg : ∀ p ∈ ps, gridP p) :
    Calls Try.prog 50 #[.slice (some ⟨b, o, none⟩) ps.length c] w fun e w' => ∃ v, e = .returned v ∧ Own encT 9 40 w' w.heap.size v (fanP ps).length (fanP ps) ∧ Below w.heap.size w w' := by
  by_cases h3 : ps.length = 3
  · obtain ⟨p, q, r, rfl⟩ : ∃ p q r, ps = [p, q, r] := by
      match ps, h3 with
      | [p, q, r], _ => exact ⟨p, q, r, rfl⟩
    exact fanE_three b o c p q r w hs
  · have hf : fanP ps = fanN ps ps.length := by unfold fanP; rw [if_neg h3]
    rw [hf, fanN_length]
    exact fanE_many b o c ps w hs h0 h3 hl hg
end Go.Proofs.Ytfljcgehhnmamaa
