/- Joined texts: Join. -/
import Derived.Deep.QuietTactic
import Derived.BigQuiet
import Derived.IntWalk
import Derived.Test.YtfljcgehhnmamaaCB3
import Derived.Test.YtfljcgehhnmamaaCB7
import Derived.Test.YtfljcgehhnmamaaCB10
/- (*contour.joiner).join. -/
namespace Go.Proofs.Ytfljcgehhnmamaa
open Go.RowKit Go.WideMaps Go.Maps
theorem mul_small {a b : Int} (ha : -2 ≤ a ∧ a ≤ 2) (hb : -2 ≤ b ∧ b ≤ 2) : -4 ≤ a * b ∧ a * b ≤ 4 := by
  have hc : a = -2 ∨ a = -1 ∨ a = 0 ∨ a = 1 ∨ a = 2 := by omega
  rcases hc with rfl | rfl | rfl | rfl | rfl <;> omega
theorem grown_below' {w Y Z : World} {r : Nat} (h : Below w.heap.size w Y) (hg : Y.grownBy Z (some r)) : w.grownBy Z (some r) :=
  ⟨hg.os.trans h.os, hg.tape.trans h.tape, hg.output.trans h.output, Nat.le_trans h.size hg.size, fun k hk hne => (hg.block k (Nat.lt_of_lt_of_le hk h.size) hne).trans (h.block k hk)⟩
theorem wrap_small {a : Int} (h : -100 ≤ a ∧ a ≤ 100) : IntKind.i64.wrap a = a := IntWalk.i64_in _ (by omega)
set_option maxRecDepth 100000 in
set_option maxHeartbeats 8000000 in
theorem join0 (bj mb n v : Nat) (ins : Nat → Bool) (ms : List (Pt × Pt)) (p q : Pt) (pos : Bool) (s : Int) (hs : s = sgn pos) (w : World) (hJ : Jn w bj mb n ins ms) (hv : v < 8) (hp : smallP p) (hq : smallP q) (hn : n ≤ 1000) :
    Calls Try.prog 68 #[.pointer (some ⟨bj, 0, none⟩), vP p, vP q, .int .i64 v, .int .i64 0, .int .i64 s] w fun e w' => e = .returned (.tuple #[]) ∧ Jn w' bj mb (n + 1) ins (ms ++ [joinJ p q v 0 pos]) ∧ w.grownBy w' (some mb) := by
  have hs1 : s = 1 ∨ s = -1 := by rw [hs]; cases pos <;> simp [sgn]
  have hdet : joinJ p q v 0 pos = if 0 < detJ p q v 0 * s then (q, p) else (p, q) := by rw [hs]; rfl
  have hcb := cornerP_bd v
  obtain ⟨c, hc⟩ : ∃ c, c = cornerP v := ⟨_, rfl⟩
  have hdE : detJ p q v 0 = ((q.2.1 - p.2.1) * (c.2.2 - p.2.2) - (q.2.2 - p.2.2) * (c.2.1 - p.2.1)) := by rw [hc]; rfl
  rw [← hc] at hcb
  obtain ⟨⟨pa, pb⟩, ⟨pc, pd⟩, pe, pf⟩ := hp
  obtain ⟨⟨qa, qb⟩, ⟨qc, qd⟩, qe, qf⟩ := hq
  obtain ⟨⟨ca, cb⟩, ⟨cc, cd⟩, ce, cf⟩ := hcb
  have m1 := mul_small (a := (q.2.1 - p.2.1)) (b := (c.2.2 - p.2.2)) (by omega) (by omega)
  have m2 := mul_small (a := (q.2.2 - p.2.2)) (b := (c.2.1 - p.2.1)) (by omega) (by omega)
  have m3 : -8 ≤ ((q.2.1 - p.2.1) * (c.2.2 - p.2.2) - (q.2.2 - p.2.2) * (c.2.1 - p.2.1)) * s ∧ ((q.2.1 - p.2.1) * (c.2.2 - p.2.2) - (q.2.2 - p.2.2) * (c.2.1 - p.2.1)) * s ≤ 8 := by rcases hs1 with rfl | rfl <;> omega
  have z1 : IntKind.i64.wrap (q.2.1 - p.2.1) = (q.2.1 - p.2.1) := wrap_small (by omega)
  have z2 : IntKind.i64.wrap (c.2.2 - p.2.2) = (c.2.2 - p.2.2) := wrap_small (by omega)
  have z3 : IntKind.i64.wrap (q.2.2 - p.2.2) = (q.2.2 - p.2.2) := wrap_small (by omega)
  have z4 : IntKind.i64.wrap (c.2.1 - p.2.1) = (c.2.1 - p.2.1) := wrap_small (by omega)
  have z5 : IntKind.i64.wrap ((q.2.1 - p.2.1) * (c.2.2 - p.2.2)) = (q.2.1 - p.2.1) * (c.2.2 - p.2.2) := wrap_small (by omega)
  have z6 : IntKind.i64.wrap ((q.2.2 - p.2.2) * (c.2.1 - p.2.1)) = (q.2.2 - p.2.2) * (c.2.1 - p.2.1) := wrap_small (by omega)
  have z7 : IntKind.i64.wrap ((q.2.1 - p.2.1) * (c.2.2 - p.2.2) - (q.2.2 - p.2.2) * (c.2.1 - p.2.1)) = ((q.2.1 - p.2.1) * (c.2.2 - p.2.2) - (q.2.2 - p.2.2) * (c.2.1 - p.2.1)) := wrap_small (by omega)
  have z8 : IntKind.i64.wrap (((q.2.1 - p.2.1) * (c.2.2 - p.2.2) - (q.2.2 - p.2.2) * (c.2.1 - p.2.1)) * s) = ((q.2.1 - p.2.1) * (c.2.2 - p.2.2) - (q.2.2 - p.2.2) * (c.2.1 - p.2.1)) * s := wrap_small (by omega)
  have hfp : fitsP p := smallP.fits ⟨⟨pa, pb⟩, ⟨pc, pd⟩, pe, pf⟩
  have hfq : fitsP q := smallP.fits ⟨⟨qa, qb⟩, ⟨qc, qd⟩, qe, qf⟩
  have hlt := hJ.1.lt
  have hltm := hJ.2.lt
  have HJ := hide (And.intro hJ (And.intro hdet (And.intro hdE (And.intro hc (And.intro hfp hfq)))))
  clear hs hJ hdet hdE hc hfp hfq m1 m2 m3 hs1
  obtain ⟨V, hV⟩ : ∃ V, V = (w.alloc (.cells #[.int .i64 p.1, .int .i64 p.2.1, .int .i64 p.2.2] 61)).alloc (.cells #[.int .i64 q.1, .int .i64 q.2.1, .int .i64 q.2.2] 61) := ⟨_, rfl⟩
  have hBV : Below w.heap.size w V := by rw [hV]; exact ((Below.refl _ w).alloc (Nat.le_refl _) _).alloc (by simp) _
  have hbp : Blk V w.heap.size 61 #[.int .i64 p.1, .int .i64 p.2.1, .int .i64 p.2.2] := by rw [hV]; exact (Blk.new _ _ _).alloc _
  have hbq : Blk V (w.heap.size + 1) 61 #[.int .i64 q.1, .int .i64 q.2.1, .int .i64 q.2.2] := by rw [hV]; exact Blk.new' _ _ _ _ (by simp)
  have HV := hide (And.intro hBV (And.intro hbp hbq))
  have HVe := hide hV
  clear hBV hbp hbq hV
  go_enter Try.func68, Try.ntmps68
  go_wp2_with fail
  rw [← HVe.out]
  refine (axes8_any 0 (by omega) _).mono ?_
  rintro e w1 ⟨rfl, rfl⟩
  go_wp2_with fail
  refine (corner_any v hv _).mono ?_
  rintro e w2 ⟨rfl, hB2⟩
  rw [← HJ.out.2.2.2.1]
  have hzV : w1.heap.size = w.heap.size + 2 := by rw [HVe.out]; simp
  have hz2 : w.heap.size + 2 ≤ w2.heap.size := by have h1 := hB2.size; omega
  have hbp2 := HV.out.2.1.below hB2 HV.out.2.1.lt
  have hbq2 := HV.out.2.2.below hB2 HV.out.2.2.lt
  obtain ⟨X, hX⟩ : ∃ X, X = w2.alloc (.cells #[.int .i64 c.1, .int .i64 c.2.1, .int .i64 c.2.2] 61) := ⟨_, rfl⟩
  have hBX : Below w.heap.size w X := by rw [hX]; exact (HV.out.1.trans (hB2.mono HV.out.1.size)).alloc (by omega) _
  have hbpX : Blk X w.heap.size 61 #[.int .i64 p.1, .int .i64 p.2.1, .int .i64 p.2.2] := by rw [hX]; exact hbp2.alloc _
  have hbqX : Blk X (w.heap.size + 1) 61 #[.int .i64 q.1, .int .i64 q.2.1, .int .i64 q.2.2] := by rw [hX]; exact hbq2.alloc _
  have hbcX : Blk X w2.heap.size 61 #[.int .i64 c.1, .int .i64 c.2.1, .int .i64 c.2.2] := by rw [hX]; exact Blk.new _ _ _
  have hzX : w2.heap.size < X.heap.size := by rw [hX]; simp
  have HX := hide (And.intro hBX (And.intro hbpX (And.intro hbqX hbcX)))
  have HXe := hide hX
  clear hB2 hbp2 hbq2 hBX hX
  obtain ⟨p0, p1, p2⟩ := hbpX.three
  obtain ⟨q0, q1, q2⟩ := hbqX.three
  obtain ⟨c0, c1, c2⟩ := hbcX.three
  have fp0 := hbpX.frozen 0
  have fp1 := hbpX.frozen 1
  have fp2 := hbpX.frozen 2
  have fq0 := hbqX.frozen 0
  have fq1 := hbqX.frozen 1
  have fq2 := hbqX.frozen 2
  have jm := (HJ.out.1.below HX.out.1 hlt hltm).map_
  have n1 : bj ≠ w.heap.size := by omega
  have n2 : bj ≠ w.heap.size + 1 := by omega
  clear hbpX hbqX hbcX
  go_wp2_with fail
  rw [← HXe.out]
  by_cases ht : 0 < ((q.2.1 - p.2.1) * (c.2.2 - p.2.2) - (q.2.2 - p.2.2) * (c.2.1 - p.2.1)) * s
  · have htt : decide (0 < ((q.2.1 - p.2.1) * (c.2.2 - p.2.2) - (q.2.2 - p.2.2) * (c.2.1 - p.2.1)) * s) = true := decide_eq_true ht
    have ht := hide ht
    go_quiet (fail)
    go_wp2_with fail
    clear z1 z2 z3 z4 z5 z6 z7 z8 p0 p1 p2 q0 q1 q2 c0 c1 c2 fp0 fp1 fp2 fq0 fq1 fq2 jm htt
    obtain ⟨Y, hY⟩ : ∃ Y, Y = ((((((X.drewN nq).setCell ⟨w.heap.size, 0, none⟩ (.int .i64 q.1)).setCell ⟨w.heap.size, 1, none⟩ (.int .i64 q.2.1)).setCell ⟨w.heap.size, 2, none⟩ (.int .i64 q.2.2)).setCell ⟨w.heap.size + 1, 0, none⟩ (.int .i64 p.1)).setCell ⟨w.heap.size + 1, 1, none⟩ (.int .i64 p.2.1)).setCell ⟨w.heap.size + 1, 2, none⟩ (.int .i64 p.2.2) := ⟨_, rfl⟩
    rw [← hY]
    have hYp : Blk Y w.heap.size 61 #[.int .i64 q.1, .int .i64 q.2.1, .int .i64 q.2.2] := by rw [hY]; exact ((HX.out.2.1.drewN nq).set3 _ _ _).far3 (by omega) _ _ _
    have hYq : Blk Y (w.heap.size + 1) 61 #[.int .i64 p.1, .int .i64 p.2.1, .int .i64 p.2.2] := by rw [hY]; exact ((HX.out.2.2.1.drewN nq).far3 (by omega) _ _ _).set3 _ _ _
    have hYB : Below w.heap.size w Y := by rw [hY]; exact ((((((below_drewN HX.out.1 nq).setCell (by simp) _).setCell (by simp) _).setCell (by simp) _).setCell (by simp) _).setCell (by simp) _).setCell (by simp) _
    have hJY := HJ.out.1.below hYB hlt hltm
    have hSY : (fun W => W.cell? ⟨bj, 8, none⟩ = some (.map (some mb)) ∧ (W.cell? ⟨w.heap.size, 0, none⟩ = some (.int .i64 q.1) ∧ W.cell? ⟨w.heap.size, 1, none⟩ = some (.int .i64 q.2.1) ∧ W.cell? ⟨w.heap.size, 2, none⟩ = some (.int .i64 q.2.2)) ∧ (W.cell? ⟨w.heap.size + 1, 0, none⟩ = some (.int .i64 p.1) ∧ W.cell? ⟨w.heap.size + 1, 1, none⟩ = some (.int .i64 p.2.1) ∧ W.cell? ⟨w.heap.size + 1, 2, none⟩ = some (.int .i64 p.2.2))) Y.drew := ⟨hJY.map_, hYp.three, hYq.three⟩
    have HY := hide (And.intro hSY (And.intro hJY hYB))
    clear hSY hJY hYB hYp hYq hY
    refine wp_region_mix (fun W => W.cell? ⟨bj, 8, none⟩ = some (.map (some mb)) ∧ (W.cell? ⟨w.heap.size, 0, none⟩ = some (.int .i64 q.1) ∧ W.cell? ⟨w.heap.size, 1, none⟩ = some (.int .i64 q.2.1) ∧ W.cell? ⟨w.heap.size, 2, none⟩ = some (.int .i64 q.2.2)) ∧ (W.cell? ⟨w.heap.size + 1, 0, none⟩ = some (.int .i64 p.1) ∧ W.cell? ⟨w.heap.size + 1, 1, none⟩ = some (.int .i64 p.2.1) ∧ W.cell? ⟨w.heap.size + 1, 2, none⟩ = some (.int .i64 p.2.2))) [0, 1, 2, 3, 4, 5] [0, 1, 2, 3, 4, 5, 6] mixed_ok (by kernel_rfl) ?_
    refine wpMix_q (v := .pointer (some ⟨bj, 0, none⟩)) rfl rfl (fun _ _ _ h => h) HY.out.1 ⟨rfl, fun W' h' => by simp [go_sem]⟩ ?_
    refine wpMix_q (v := .pointer (some ⟨bj, 0, none⟩)) rfl rfl (fun _ _ _ h => h) HY.out.1 ⟨rfl, fun W' h' => by simp [go_sem]⟩ ?_
    refine wpMix_q (v := .pointer (some ⟨bj, 8, none⟩)) rfl rfl (fun _ _ _ h => h) HY.out.1 ⟨rfl, fun W' h' => by simp [go_sem]⟩ ?_
    refine wpMix_q (v := .map (some mb)) rfl rfl (fun _ _ _ h => h) HY.out.1 ⟨rfl, fun W' h' => by simp [go_sem, h'.1]⟩ ?_
    refine wpMix_q (v := vP q) rfl rfl (fun _ _ _ h => h) HY.out.1 ⟨rfl, fun W' h' => by obtain ⟨_, ⟨a0, a1, a2⟩, _⟩ := h'; simp [go_sem, a0, a1, a2]⟩ ?_
    refine wpMix_q (v := vP p) rfl rfl (fun _ _ _ h => h) HY.out.1 ⟨rfl, fun W' h' => by obtain ⟨_, _, a0, a1, a2⟩ := h'; simp [go_sem, a0, a1, a2]⟩ ?_
    refine wpMix_tail _ [_] (by kernel_rfl) rfl ?_
    simp only [List.getElem_toArray, List.getElem_cons_succ, List.getElem_cons_zero]
    obtain ⟨w5, hrun, hm5, hg5, hz5⟩ := (show MapK Try.prog 61 vP fitsP Y.drew mb n (lkV ms) from HY.out.2.1.2).update kfV (t := 75) (e := 61) Try.underlying75 (by unfold maxLen; omega) q HJ.out.2.2.2.2.2 (vP p)
    have hres : joinJ p q v 0 pos = (q, p) := by rw [HJ.out.2.1, HJ.out.2.2.1]; exact if_pos ht.out
    have hJ5 : Jn w5 bj mb (n + 1) ins (ms ++ [joinJ p q v 0 pos]) := by
      rw [hres]
      refine ⟨HY.out.2.1.1.drew.grown (row := some mb) hg5 (fun e => HJ.out.1.ne (by injection e)), hm5.same fun x => ?_⟩
      rw [lkV_snoc]
    have hg0 : w.grownBy w5 (some mb) := grown_below' HY.out.2.2.drew hg5
    have H5 := hide (And.intro hJ5 hg0)
    clear hm5 hg5 hz5 hres hJ5 hg0
    go_wp2
    go_end0
    exact ⟨rfl, H5.out.1, H5.out.2⟩
  · have htt : decide (0 < ((q.2.1 - p.2.1) * (c.2.2 - p.2.2) - (q.2.2 - p.2.2) * (c.2.1 - p.2.1)) * s) = false := decide_eq_false ht
    have ht := hide ht
    go_quiet (fail)
    go_wp2_with fail
    clear z1 z2 z3 z4 z5 z6 z7 z8 p0 p1 p2 q0 q1 q2 c0 c1 c2 fp0 fp1 fp2 fq0 fq1 fq2 jm htt
    obtain ⟨Y, hY⟩ : ∃ Y, Y = X.drewN nq := ⟨_, rfl⟩
    rw [← hY]
    have hYp : Blk Y w.heap.size 61 #[.int .i64 p.1, .int .i64 p.2.1, .int .i64 p.2.2] := by rw [hY]; exact HX.out.2.1.drewN nq
    have hYq : Blk Y (w.heap.size + 1) 61 #[.int .i64 q.1, .int .i64 q.2.1, .int .i64 q.2.2] := by rw [hY]; exact HX.out.2.2.1.drewN nq
    have hYB : Below w.heap.size w Y := by rw [hY]; exact below_drewN HX.out.1 nq
    have hJY := HJ.out.1.below hYB hlt hltm
    have hSY : (fun W => W.cell? ⟨bj, 8, none⟩ = some (.map (some mb)) ∧ (W.cell? ⟨w.heap.size, 0, none⟩ = some (.int .i64 p.1) ∧ W.cell? ⟨w.heap.size, 1, none⟩ = some (.int .i64 p.2.1) ∧ W.cell? ⟨w.heap.size, 2, none⟩ = some (.int .i64 p.2.2)) ∧ (W.cell? ⟨w.heap.size + 1, 0, none⟩ = some (.int .i64 q.1) ∧ W.cell? ⟨w.heap.size + 1, 1, none⟩ = some (.int .i64 q.2.1) ∧ W.cell? ⟨w.heap.size + 1, 2, none⟩ = some (.int .i64 q.2.2))) Y.drew := ⟨hJY.map_, hYp.three, hYq.three⟩
    have HY := hide (And.intro hSY (And.intro hJY hYB))
    clear hSY hJY hYB hYp hYq hY
    refine wp_region_mix (fun W => W.cell? ⟨bj, 8, none⟩ = some (.map (some mb)) ∧ (W.cell? ⟨w.heap.size, 0, none⟩ = some (.int .i64 p.1) ∧ W.cell? ⟨w.heap.size, 1, none⟩ = some (.int .i64 p.2.1) ∧ W.cell? ⟨w.heap.size, 2, none⟩ = some (.int .i64 p.2.2)) ∧ (W.cell? ⟨w.heap.size + 1, 0, none⟩ = some (.int .i64 q.1) ∧ W.cell? ⟨w.heap.size + 1, 1, none⟩ = some (.int .i64 q.2.1) ∧ W.cell? ⟨w.heap.size + 1, 2, none⟩ = some (.int .i64 q.2.2))) [0, 1, 2, 3, 4, 5] [0, 1, 2, 3, 4, 5, 6] mixed_ok (by kernel_rfl) ?_
    refine wpMix_q (v := .pointer (some ⟨bj, 0, none⟩)) rfl rfl (fun _ _ _ h => h) HY.out.1 ⟨rfl, fun W' h' => by simp [go_sem]⟩ ?_
    refine wpMix_q (v := .pointer (some ⟨bj, 0, none⟩)) rfl rfl (fun _ _ _ h => h) HY.out.1 ⟨rfl, fun W' h' => by simp [go_sem]⟩ ?_
    refine wpMix_q (v := .pointer (some ⟨bj, 8, none⟩)) rfl rfl (fun _ _ _ h => h) HY.out.1 ⟨rfl, fun W' h' => by simp [go_sem]⟩ ?_
    refine wpMix_q (v := .map (some mb)) rfl rfl (fun _ _ _ h => h) HY.out.1 ⟨rfl, fun W' h' => by simp [go_sem, h'.1]⟩ ?_
    refine wpMix_q (v := vP p) rfl rfl (fun _ _ _ h => h) HY.out.1 ⟨rfl, fun W' h' => by obtain ⟨_, ⟨a0, a1, a2⟩, _⟩ := h'; simp [go_sem, a0, a1, a2]⟩ ?_
    refine wpMix_q (v := vP q) rfl rfl (fun _ _ _ h => h) HY.out.1 ⟨rfl, fun W' h' => by obtain ⟨_, _, a0, a1, a2⟩ := h'; simp [go_sem, a0, a1, a2]⟩ ?_
    refine wpMix_tail _ [_] (by kernel_rfl) rfl ?_
    simp only [List.getElem_toArray, List.getElem_cons_succ, List.getElem_cons_zero]
    obtain ⟨w5, hrun, hm5, hg5, hz5⟩ := (show MapK Try.prog 61 vP fitsP Y.drew mb n (lkV ms) from HY.out.2.1.2).update kfV (t := 75) (e := 61) Try.underlying75 (by unfold maxLen; omega) p HJ.out.2.2.2.2.1 (vP q)
    have hres : joinJ p q v 0 pos = (p, q) := by rw [HJ.out.2.1, HJ.out.2.2.1]; exact if_neg (Int.not_lt.2 ht.out)
    have hJ5 : Jn w5 bj mb (n + 1) ins (ms ++ [joinJ p q v 0 pos]) := by
      rw [hres]
      refine ⟨HY.out.2.1.1.drew.grown (row := some mb) hg5 (fun e => HJ.out.1.ne (by injection e)), hm5.same fun x => ?_⟩
      rw [lkV_snoc]
    have hg0 : w.grownBy w5 (some mb) := grown_below' HY.out.2.2.drew hg5
    have H5 := hide (And.intro hJ5 hg0)
    clear hm5 hg5 hz5 hres hJ5 hg0
    go_wp2
    go_end0
    exact ⟨rfl, H5.out.1, H5.out.2⟩
set_option maxRecDepth 100000 in
set_option maxHeartbeats 8000000 in
theorem join1 (bj mb n v : Nat) (ins : Nat → Bool) (ms : List (Pt × Pt)) (p q : Pt) (pos : Bool) (s : Int) (hs : s = sgn pos) (w : World) (hJ : Jn w bj mb n ins ms) (hv : v < 8) (hp : smallP p) (hq : smallP q) (hn : n ≤ 1000) :
    Calls Try.prog 68 #[.pointer (some ⟨bj, 0, none⟩), vP p, vP q, .int .i64 v, .int .i64 1, .int .i64 s] w fun e w' => e = .returned (.tuple #[]) ∧ Jn w' bj mb (n + 1) ins (ms ++ [joinJ p q v 1 pos]) ∧ w.grownBy w' (some mb) := by
  have hs1 : s = 1 ∨ s = -1 := by rw [hs]; cases pos <;> simp [sgn]
  have hdet : joinJ p q v 1 pos = if 0 < detJ p q v 1 * s then (q, p) else (p, q) := by rw [hs]; rfl
  have hcb := cornerP_bd v
  obtain ⟨c, hc⟩ : ∃ c, c = cornerP v := ⟨_, rfl⟩
  have hdE : detJ p q v 1 = ((q.2.2 - p.2.2) * (c.1 - p.1) - (q.1 - p.1) * (c.2.2 - p.2.2)) := by rw [hc]; rfl
  rw [← hc] at hcb
  obtain ⟨⟨pa, pb⟩, ⟨pc, pd⟩, pe, pf⟩ := hp
  obtain ⟨⟨qa, qb⟩, ⟨qc, qd⟩, qe, qf⟩ := hq
  obtain ⟨⟨ca, cb⟩, ⟨cc, cd⟩, ce, cf⟩ := hcb
  have m1 := mul_small (a := (q.2.2 - p.2.2)) (b := (c.1 - p.1)) (by omega) (by omega)
  have m2 := mul_small (a := (q.1 - p.1)) (b := (c.2.2 - p.2.2)) (by omega) (by omega)
  have m3 : -8 ≤ ((q.2.2 - p.2.2) * (c.1 - p.1) - (q.1 - p.1) * (c.2.2 - p.2.2)) * s ∧ ((q.2.2 - p.2.2) * (c.1 - p.1) - (q.1 - p.1) * (c.2.2 - p.2.2)) * s ≤ 8 := by rcases hs1 with rfl | rfl <;> omega
  have z1 : IntKind.i64.wrap (q.2.2 - p.2.2) = (q.2.2 - p.2.2) := wrap_small (by omega)
  have z2 : IntKind.i64.wrap (c.1 - p.1) = (c.1 - p.1) := wrap_small (by omega)
  have z3 : IntKind.i64.wrap (q.1 - p.1) = (q.1 - p.1) := wrap_small (by omega)
  have z4 : IntKind.i64.wrap (c.2.2 - p.2.2) = (c.2.2 - p.2.2) := wrap_small (by omega)
  have z5 : IntKind.i64.wrap ((q.2.2 - p.2.2) * (c.1 - p.1)) = (q.2.2 - p.2.2) * (c.1 - p.1) := wrap_small (by omega)
  have z6 : IntKind.i64.wrap ((q.1 - p.1) * (c.2.2 - p.2.2)) = (q.1 - p.1) * (c.2.2 - p.2.2) := wrap_small (by omega)
  have z7 : IntKind.i64.wrap ((q.2.2 - p.2.2) * (c.1 - p.1) - (q.1 - p.1) * (c.2.2 - p.2.2)) = ((q.2.2 - p.2.2) * (c.1 - p.1) - (q.1 - p.1) * (c.2.2 - p.2.2)) := wrap_small (by omega)
  have z8 : IntKind.i64.wrap (((q.2.2 - p.2.2) * (c.1 - p.1) - (q.1 - p.1) * (c.2.2 - p.2.2)) * s) = ((q.2.2 - p.2.2) * (c.1 - p.1) - (q.1 - p.1) * (c.2.2 - p.2.2)) * s := wrap_small (by omega)
  have hfp : fitsP p := smallP.fits ⟨⟨pa, pb⟩, ⟨pc, pd⟩, pe, pf⟩
  have hfq : fitsP q := smallP.fits ⟨⟨qa, qb⟩, ⟨qc, qd⟩, qe, qf⟩
  have hlt := hJ.1.lt
  have hltm := hJ.2.lt
  have HJ := hide (And.intro hJ (And.intro hdet (And.intro hdE (And.intro hc (And.intro hfp hfq)))))
  clear hs hJ hdet hdE hc hfp hfq m1 m2 m3 hs1
  obtain ⟨V, hV⟩ : ∃ V, V = (w.alloc (.cells #[.int .i64 p.1, .int .i64 p.2.1, .int .i64 p.2.2] 61)).alloc (.cells #[.int .i64 q.1, .int .i64 q.2.1, .int .i64 q.2.2] 61) := ⟨_, rfl⟩
  have hBV : Below w.heap.size w V := by rw [hV]; exact ((Below.refl _ w).alloc (Nat.le_refl _) _).alloc (by simp) _
  have hbp : Blk V w.heap.size 61 #[.int .i64 p.1, .int .i64 p.2.1, .int .i64 p.2.2] := by rw [hV]; exact (Blk.new _ _ _).alloc _
  have hbq : Blk V (w.heap.size + 1) 61 #[.int .i64 q.1, .int .i64 q.2.1, .int .i64 q.2.2] := by rw [hV]; exact Blk.new' _ _ _ _ (by simp)
  have HV := hide (And.intro hBV (And.intro hbp hbq))
  have HVe := hide hV
  clear hBV hbp hbq hV
  go_enter Try.func68, Try.ntmps68
  go_wp2_with fail
  rw [← HVe.out]
  refine (axes8_any 1 (by omega) _).mono ?_
  rintro e w1 ⟨rfl, rfl⟩
  go_wp2_with fail
  refine (corner_any v hv _).mono ?_
  rintro e w2 ⟨rfl, hB2⟩
  rw [← HJ.out.2.2.2.1]
  have hzV : w1.heap.size = w.heap.size + 2 := by rw [HVe.out]; simp
  have hz2 : w.heap.size + 2 ≤ w2.heap.size := by have h1 := hB2.size; omega
  have hbp2 := HV.out.2.1.below hB2 HV.out.2.1.lt
  have hbq2 := HV.out.2.2.below hB2 HV.out.2.2.lt
  obtain ⟨X, hX⟩ : ∃ X, X = w2.alloc (.cells #[.int .i64 c.1, .int .i64 c.2.1, .int .i64 c.2.2] 61) := ⟨_, rfl⟩
  have hBX : Below w.heap.size w X := by rw [hX]; exact (HV.out.1.trans (hB2.mono HV.out.1.size)).alloc (by omega) _
  have hbpX : Blk X w.heap.size 61 #[.int .i64 p.1, .int .i64 p.2.1, .int .i64 p.2.2] := by rw [hX]; exact hbp2.alloc _
  have hbqX : Blk X (w.heap.size + 1) 61 #[.int .i64 q.1, .int .i64 q.2.1, .int .i64 q.2.2] := by rw [hX]; exact hbq2.alloc _
  have hbcX : Blk X w2.heap.size 61 #[.int .i64 c.1, .int .i64 c.2.1, .int .i64 c.2.2] := by rw [hX]; exact Blk.new _ _ _
  have hzX : w2.heap.size < X.heap.size := by rw [hX]; simp
  have HX := hide (And.intro hBX (And.intro hbpX (And.intro hbqX hbcX)))
  have HXe := hide hX
  clear hB2 hbp2 hbq2 hBX hX
  obtain ⟨p0, p1, p2⟩ := hbpX.three
  obtain ⟨q0, q1, q2⟩ := hbqX.three
  obtain ⟨c0, c1, c2⟩ := hbcX.three
  have fp0 := hbpX.frozen 0
  have fp1 := hbpX.frozen 1
  have fp2 := hbpX.frozen 2
  have fq0 := hbqX.frozen 0
  have fq1 := hbqX.frozen 1
  have fq2 := hbqX.frozen 2
  have jm := (HJ.out.1.below HX.out.1 hlt hltm).map_
  have n1 : bj ≠ w.heap.size := by omega
  have n2 : bj ≠ w.heap.size + 1 := by omega
  clear hbpX hbqX hbcX
  go_wp2_with fail
  rw [← HXe.out]
  by_cases ht : 0 < ((q.2.2 - p.2.2) * (c.1 - p.1) - (q.1 - p.1) * (c.2.2 - p.2.2)) * s
  · have htt : decide (0 < ((q.2.2 - p.2.2) * (c.1 - p.1) - (q.1 - p.1) * (c.2.2 - p.2.2)) * s) = true := decide_eq_true ht
    have ht := hide ht
    go_quiet (fail)
    go_wp2_with fail
    clear z1 z2 z3 z4 z5 z6 z7 z8 p0 p1 p2 q0 q1 q2 c0 c1 c2 fp0 fp1 fp2 fq0 fq1 fq2 jm htt
    obtain ⟨Y, hY⟩ : ∃ Y, Y = ((((((X.drewN nq).setCell ⟨w.heap.size, 0, none⟩ (.int .i64 q.1)).setCell ⟨w.heap.size, 1, none⟩ (.int .i64 q.2.1)).setCell ⟨w.heap.size, 2, none⟩ (.int .i64 q.2.2)).setCell ⟨w.heap.size + 1, 0, none⟩ (.int .i64 p.1)).setCell ⟨w.heap.size + 1, 1, none⟩ (.int .i64 p.2.1)).setCell ⟨w.heap.size + 1, 2, none⟩ (.int .i64 p.2.2) := ⟨_, rfl⟩
    rw [← hY]
    have hYp : Blk Y w.heap.size 61 #[.int .i64 q.1, .int .i64 q.2.1, .int .i64 q.2.2] := by rw [hY]; exact ((HX.out.2.1.drewN nq).set3 _ _ _).far3 (by omega) _ _ _
    have hYq : Blk Y (w.heap.size + 1) 61 #[.int .i64 p.1, .int .i64 p.2.1, .int .i64 p.2.2] := by rw [hY]; exact ((HX.out.2.2.1.drewN nq).far3 (by omega) _ _ _).set3 _ _ _
    have hYB : Below w.heap.size w Y := by rw [hY]; exact ((((((below_drewN HX.out.1 nq).setCell (by simp) _).setCell (by simp) _).setCell (by simp) _).setCell (by simp) _).setCell (by simp) _).setCell (by simp) _
    have hJY := HJ.out.1.below hYB hlt hltm
    have hSY : (fun W => W.cell? ⟨bj, 8, none⟩ = some (.map (some mb)) ∧ (W.cell? ⟨w.heap.size, 0, none⟩ = some (.int .i64 q.1) ∧ W.cell? ⟨w.heap.size, 1, none⟩ = some (.int .i64 q.2.1) ∧ W.cell? ⟨w.heap.size, 2, none⟩ = some (.int .i64 q.2.2)) ∧ (W.cell? ⟨w.heap.size + 1, 0, none⟩ = some (.int .i64 p.1) ∧ W.cell? ⟨w.heap.size + 1, 1, none⟩ = some (.int .i64 p.2.1) ∧ W.cell? ⟨w.heap.size + 1, 2, none⟩ = some (.int .i64 p.2.2))) Y.drew := ⟨hJY.map_, hYp.three, hYq.three⟩
    have HY := hide (And.intro hSY (And.intro hJY hYB))
    clear hSY hJY hYB hYp hYq hY
    refine wp_region_mix (fun W => W.cell? ⟨bj, 8, none⟩ = some (.map (some mb)) ∧ (W.cell? ⟨w.heap.size, 0, none⟩ = some (.int .i64 q.1) ∧ W.cell? ⟨w.heap.size, 1, none⟩ = some (.int .i64 q.2.1) ∧ W.cell? ⟨w.heap.size, 2, none⟩ = some (.int .i64 q.2.2)) ∧ (W.cell? ⟨w.heap.size + 1, 0, none⟩ = some (.int .i64 p.1) ∧ W.cell? ⟨w.heap.size + 1, 1, none⟩ = some (.int .i64 p.2.1) ∧ W.cell? ⟨w.heap.size + 1, 2, none⟩ = some (.int .i64 p.2.2))) [0, 1, 2, 3, 4, 5] [0, 1, 2, 3, 4, 5, 6] mixed_ok (by kernel_rfl) ?_
    refine wpMix_q (v := .pointer (some ⟨bj, 0, none⟩)) rfl rfl (fun _ _ _ h => h) HY.out.1 ⟨rfl, fun W' h' => by simp [go_sem]⟩ ?_
    refine wpMix_q (v := .pointer (some ⟨bj, 0, none⟩)) rfl rfl (fun _ _ _ h => h) HY.out.1 ⟨rfl, fun W' h' => by simp [go_sem]⟩ ?_
    refine wpMix_q (v := .pointer (some ⟨bj, 8, none⟩)) rfl rfl (fun _ _ _ h => h) HY.out.1 ⟨rfl, fun W' h' => by simp [go_sem]⟩ ?_
    refine wpMix_q (v := .map (some mb)) rfl rfl (fun _ _ _ h => h) HY.out.1 ⟨rfl, fun W' h' => by simp [go_sem, h'.1]⟩ ?_
    refine wpMix_q (v := vP q) rfl rfl (fun _ _ _ h => h) HY.out.1 ⟨rfl, fun W' h' => by obtain ⟨_, ⟨a0, a1, a2⟩, _⟩ := h'; simp [go_sem, a0, a1, a2]⟩ ?_
    refine wpMix_q (v := vP p) rfl rfl (fun _ _ _ h => h) HY.out.1 ⟨rfl, fun W' h' => by obtain ⟨_, _, a0, a1, a2⟩ := h'; simp [go_sem, a0, a1, a2]⟩ ?_
    refine wpMix_tail _ [_] (by kernel_rfl) rfl ?_
    simp only [List.getElem_toArray, List.getElem_cons_succ, List.getElem_cons_zero]
    obtain ⟨w5, hrun, hm5, hg5, hz5⟩ := (show MapK Try.prog 61 vP fitsP Y.drew mb n (lkV ms) from HY.out.2.1.2).update kfV (t := 75) (e := 61) Try.underlying75 (by unfold maxLen; omega) q HJ.out.2.2.2.2.2 (vP p)
    have hres : joinJ p q v 1 pos = (q, p) := by rw [HJ.out.2.1, HJ.out.2.2.1]; exact if_pos ht.out
    have hJ5 : Jn w5 bj mb (n + 1) ins (ms ++ [joinJ p q v 1 pos]) := by
      rw [hres]
      refine ⟨HY.out.2.1.1.drew.grown (row := some mb) hg5 (fun e => HJ.out.1.ne (by injection e)), hm5.same fun x => ?_⟩
      rw [lkV_snoc]
    have hg0 : w.grownBy w5 (some mb) := grown_below' HY.out.2.2.drew hg5
    have H5 := hide (And.intro hJ5 hg0)
    clear hm5 hg5 hz5 hres hJ5 hg0
    go_wp2
    go_end0
    exact ⟨rfl, H5.out.1, H5.out.2⟩
  · have htt : decide (0 < ((q.2.2 - p.2.2) * (c.1 - p.1) - (q.1 - p.1) * (c.2.2 - p.2.2)) * s) = false := decide_eq_false ht
    have ht := hide ht
    go_quiet (fail)
    go_wp2_with fail
    clear z1 z2 z3 z4 z5 z6 z7 z8 p0 p1 p2 q0 q1 q2 c0 c1 c2 fp0 fp1 fp2 fq0 fq1 fq2 jm htt
    obtain ⟨Y, hY⟩ : ∃ Y, Y = X.drewN nq := ⟨_, rfl⟩
    rw [← hY]
    have hYp : Blk Y w.heap.size 61 #[.int .i64 p.1, .int .i64 p.2.1, .int .i64 p.2.2] := by rw [hY]; exact HX.out.2.1.drewN nq
    have hYq : Blk Y (w.heap.size + 1) 61 #[.int .i64 q.1, .int .i64 q.2.1, .int .i64 q.2.2] := by rw [hY]; exact HX.out.2.2.1.drewN nq
    have hYB : Below w.heap.size w Y := by rw [hY]; exact below_drewN HX.out.1 nq
    have hJY := HJ.out.1.below hYB hlt hltm
    have hSY : (fun W => W.cell? ⟨bj, 8, none⟩ = some (.map (some mb)) ∧ (W.cell? ⟨w.heap.size, 0, none⟩ = some (.int .i64 p.1) ∧ W.cell? ⟨w.heap.size, 1, none⟩ = some (.int .i64 p.2.1) ∧ W.cell? ⟨w.heap.size, 2, none⟩ = some (.int .i64 p.2.2)) ∧ (W.cell? ⟨w.heap.size + 1, 0, none⟩ = some (.int .i64 q.1) ∧ W.cell? ⟨w.heap.size + 1, 1, none⟩ = some (.int .i64 q.2.1) ∧ W.cell? ⟨w.heap.size + 1, 2, none⟩ = some (.int .i64 q.2.2))) Y.drew := ⟨hJY.map_, hYp.three, hYq.three⟩
    have HY := hide (And.intro hSY (And.intro hJY hYB))
    clear hSY hJY hYB hYp hYq hY
    refine wp_region_mix (fun W => W.cell? ⟨bj, 8, none⟩ = some (.map (some mb)) ∧ (W.cell? ⟨w.heap.size, 0, none⟩ = some (.int .i64 p.1) ∧ W.cell? ⟨w.heap.size, 1, none⟩ = some (.int .i64 p.2.1) ∧ W.cell? ⟨w.heap.size, 2, none⟩ = some (.int .i64 p.2.2)) ∧ (W.cell? ⟨w.heap.size + 1, 0, none⟩ = some (.int .i64 q.1) ∧ W.cell? ⟨w.heap.size + 1, 1, none⟩ = some (.int .i64 q.2.1) ∧ W.cell? ⟨w.heap.size + 1, 2, none⟩ = some (.int .i64 q.2.2))) [0, 1, 2, 3, 4, 5] [0, 1, 2, 3, 4, 5, 6] mixed_ok (by kernel_rfl) ?_
    refine wpMix_q (v := .pointer (some ⟨bj, 0, none⟩)) rfl rfl (fun _ _ _ h => h) HY.out.1 ⟨rfl, fun W' h' => by simp [go_sem]⟩ ?_
    refine wpMix_q (v := .pointer (some ⟨bj, 0, none⟩)) rfl rfl (fun _ _ _ h => h) HY.out.1 ⟨rfl, fun W' h' => by simp [go_sem]⟩ ?_
    refine wpMix_q (v := .pointer (some ⟨bj, 8, none⟩)) rfl rfl (fun _ _ _ h => h) HY.out.1 ⟨rfl, fun W' h' => by simp [go_sem]⟩ ?_
    refine wpMix_q (v := .map (some mb)) rfl rfl (fun _ _ _ h => h) HY.out.1 ⟨rfl, fun W' h' => by simp [go_sem, h'.1]⟩ ?_
    refine wpMix_q (v := vP p) rfl rfl (fun _ _ _ h => h) HY.out.1 ⟨rfl, fun W' h' => by obtain ⟨_, ⟨a0, a1, a2⟩, _⟩ := h'; simp [go_sem, a0, a1, a2]⟩ ?_
    refine wpMix_q (v := vP q) rfl rfl (fun _ _ _ h => h) HY.out.1 ⟨rfl, fun W' h' => by obtain ⟨_, _, a0, a1, a2⟩ := h'; simp [go_sem, a0, a1, a2]⟩ ?_
    refine wpMix_tail _ [_] (by kernel_rfl) rfl ?_
    simp only [List.getElem_toArray, List.getElem_cons_succ, List.getElem_cons_zero]
    obtain ⟨w5, hrun, hm5, hg5, hz5⟩ := (show MapK Try.prog 61 vP fitsP Y.drew mb n (lkV ms) from HY.out.2.1.2).update kfV (t := 75) (e := 61) Try.underlying75 (by unfold maxLen; omega) p HJ.out.2.2.2.2.1 (vP q)
    have hres : joinJ p q v 1 pos = (p, q) := by rw [HJ.out.2.1, HJ.out.2.2.1]; exact if_neg (Int.not_lt.2 ht.out)
    have hJ5 : Jn w5 bj mb (n + 1) ins (ms ++ [joinJ p q v 1 pos]) := by
      rw [hres]
      refine ⟨HY.out.2.1.1.drew.grown (row := some mb) hg5 (fun e => HJ.out.1.ne (by injection e)), hm5.same fun x => ?_⟩
      rw [lkV_snoc]
    have hg0 : w.grownBy w5 (some mb) := grown_below' HY.out.2.2.drew hg5
    have H5 := hide (And.intro hJ5 hg0)
    clear hm5 hg5 hz5 hres hJ5 hg0
    go_wp2
    go_end0
    exact ⟨rfl, H5.out.1, H5.out.2⟩
set_option maxRecDepth 100000 in
set_option maxHeartbeats 8000000 in
theorem join2 (bj mb n v : Nat) (ins : Nat → Bool) (ms : List (Pt × Pt)) (p q : Pt) (pos : Bool) (s : Int) (hs : s = sgn pos) (w : World) (hJ : Jn w bj mb n ins ms) (hv : v < 8) (hp : smallP p) (hq : smallP q) (hn : n ≤ 1000) :
    Calls Try.prog 68 #[.pointer (some ⟨bj, 0, none⟩), vP p, vP q, .int .i64 v, .int .i64 2, .int .i64 s] w fun e w' => e = .returned (.tuple #[]) ∧ Jn w' bj mb (n + 1) ins (ms ++ [joinJ p q v 2 pos]) ∧ w.grownBy w' (some mb) := by
  have hs1 : s = 1 ∨ s = -1 := by rw [hs]; cases pos <;> simp [sgn]
  have hdet : joinJ p q v 2 pos = if 0 < detJ p q v 2 * s then (q, p) else (p, q) := by rw [hs]; rfl
  have hcb := cornerP_bd v
  obtain ⟨c, hc⟩ : ∃ c, c = cornerP v := ⟨_, rfl⟩
  have hdE : detJ p q v 2 = ((q.1 - p.1) * (c.2.1 - p.2.1) - (q.2.1 - p.2.1) * (c.1 - p.1)) := by rw [hc]; rfl
  rw [← hc] at hcb
  obtain ⟨⟨pa, pb⟩, ⟨pc, pd⟩, pe, pf⟩ := hp
  obtain ⟨⟨qa, qb⟩, ⟨qc, qd⟩, qe, qf⟩ := hq
  obtain ⟨⟨ca, cb⟩, ⟨cc, cd⟩, ce, cf⟩ := hcb
  have m1 := mul_small (a := (q.1 - p.1)) (b := (c.2.1 - p.2.1)) (by omega) (by omega)
  have m2 := mul_small (a := (q.2.1 - p.2.1)) (b := (c.1 - p.1)) (by omega) (by omega)
  have m3 : -8 ≤ ((q.1 - p.1) * (c.2.1 - p.2.1) - (q.2.1 - p.2.1) * (c.1 - p.1)) * s ∧ ((q.1 - p.1) * (c.2.1 - p.2.1) - (q.2.1 - p.2.1) * (c.1 - p.1)) * s ≤ 8 := by rcases hs1 with rfl | rfl <;> omega
  have z1 : IntKind.i64.wrap (q.1 - p.1) = (q.1 - p.1) := wrap_small (by omega)
  have z2 : IntKind.i64.wrap (c.2.1 - p.2.1) = (c.2.1 - p.2.1) := wrap_small (by omega)
  have z3 : IntKind.i64.wrap (q.2.1 - p.2.1) = (q.2.1 - p.2.1) := wrap_small (by omega)
  have z4 : IntKind.i64.wrap (c.1 - p.1) = (c.1 - p.1) := wrap_small (by omega)
  have z5 : IntKind.i64.wrap ((q.1 - p.1) * (c.2.1 - p.2.1)) = (q.1 - p.1) * (c.2.1 - p.2.1) := wrap_small (by omega)
  have z6 : IntKind.i64.wrap ((q.2.1 - p.2.1) * (c.1 - p.1)) = (q.2.1 - p.2.1) * (c.1 - p.1) := wrap_small (by omega)
  have z7 : IntKind.i64.wrap ((q.1 - p.1) * (c.2.1 - p.2.1) - (q.2.1 - p.2.1) * (c.1 - p.1)) = ((q.1 - p.1) * (c.2.1 - p.2.1) - (q.2.1 - p.2.1) * (c.1 - p.1)) := wrap_small (by omega)
  have z8 : IntKind.i64.wrap (((q.1 - p.1) * (c.2.1 - p.2.1) - (q.2.1 - p.2.1) * (c.1 - p.1)) * s) = ((q.1 - p.1) * (c.2.1 - p.2.1) - (q.2.1 - p.2.1) * (c.1 - p.1)) * s := wrap_small (by omega)
  have hfp : fitsP p := smallP.fits ⟨⟨pa, pb⟩, ⟨pc, pd⟩, pe, pf⟩
  have hfq : fitsP q := smallP.fits ⟨⟨qa, qb⟩, ⟨qc, qd⟩, qe, qf⟩
  have hlt := hJ.1.lt
  have hltm := hJ.2.lt
  have HJ := hide (And.intro hJ (And.intro hdet (And.intro hdE (And.intro hc (And.intro hfp hfq)))))
  clear hs hJ hdet hdE hc hfp hfq m1 m2 m3 hs1
  obtain ⟨V, hV⟩ : ∃ V, V = (w.alloc (.cells #[.int .i64 p.1, .int .i64 p.2.1, .int .i64 p.2.2] 61)).alloc (.cells #[.int .i64 q.1, .int .i64 q.2.1, .int .i64 q.2.2] 61) := ⟨_, rfl⟩
  have hBV : Below w.heap.size w V := by rw [hV]; exact ((Below.refl _ w).alloc (Nat.le_refl _) _).alloc (by simp) _
  have hbp : Blk V w.heap.size 61 #[.int .i64 p.1, .int .i64 p.2.1, .int .i64 p.2.2] := by rw [hV]; exact (Blk.new _ _ _).alloc _
  have hbq : Blk V (w.heap.size + 1) 61 #[.int .i64 q.1, .int .i64 q.2.1, .int .i64 q.2.2] := by rw [hV]; exact Blk.new' _ _ _ _ (by simp)
  have HV := hide (And.intro hBV (And.intro hbp hbq))
  have HVe := hide hV
  clear hBV hbp hbq hV
  go_enter Try.func68, Try.ntmps68
  go_wp2_with fail
  rw [← HVe.out]
  refine (axes8_any 2 (by omega) _).mono ?_
  rintro e w1 ⟨rfl, rfl⟩
  go_wp2_with fail
  refine (corner_any v hv _).mono ?_
  rintro e w2 ⟨rfl, hB2⟩
  rw [← HJ.out.2.2.2.1]
  have hzV : w1.heap.size = w.heap.size + 2 := by rw [HVe.out]; simp
  have hz2 : w.heap.size + 2 ≤ w2.heap.size := by have h1 := hB2.size; omega
  have hbp2 := HV.out.2.1.below hB2 HV.out.2.1.lt
  have hbq2 := HV.out.2.2.below hB2 HV.out.2.2.lt
  obtain ⟨X, hX⟩ : ∃ X, X = w2.alloc (.cells #[.int .i64 c.1, .int .i64 c.2.1, .int .i64 c.2.2] 61) := ⟨_, rfl⟩
  have hBX : Below w.heap.size w X := by rw [hX]; exact (HV.out.1.trans (hB2.mono HV.out.1.size)).alloc (by omega) _
  have hbpX : Blk X w.heap.size 61 #[.int .i64 p.1, .int .i64 p.2.1, .int .i64 p.2.2] := by rw [hX]; exact hbp2.alloc _
  have hbqX : Blk X (w.heap.size + 1) 61 #[.int .i64 q.1, .int .i64 q.2.1, .int .i64 q.2.2] := by rw [hX]; exact hbq2.alloc _
  have hbcX : Blk X w2.heap.size 61 #[.int .i64 c.1, .int .i64 c.2.1, .int .i64 c.2.2] := by rw [hX]; exact Blk.new _ _ _
  have hzX : w2.heap.size < X.heap.size := by rw [hX]; simp
  have HX := hide (And.intro hBX (And.intro hbpX (And.intro hbqX hbcX)))
  have HXe := hide hX
  clear hB2 hbp2 hbq2 hBX hX
  obtain ⟨p0, p1, p2⟩ := hbpX.three
  obtain ⟨q0, q1, q2⟩ := hbqX.three
  obtain ⟨c0, c1, c2⟩ := hbcX.three
  have fp0 := hbpX.frozen 0
  have fp1 := hbpX.frozen 1
  have fp2 := hbpX.frozen 2
  have fq0 := hbqX.frozen 0
  have fq1 := hbqX.frozen 1
  have fq2 := hbqX.frozen 2
  have jm := (HJ.out.1.below HX.out.1 hlt hltm).map_
  have n1 : bj ≠ w.heap.size := by omega
  have n2 : bj ≠ w.heap.size + 1 := by omega
  clear hbpX hbqX hbcX
  go_wp2_with fail
  rw [← HXe.out]
  by_cases ht : 0 < ((q.1 - p.1) * (c.2.1 - p.2.1) - (q.2.1 - p.2.1) * (c.1 - p.1)) * s
  · have htt : decide (0 < ((q.1 - p.1) * (c.2.1 - p.2.1) - (q.2.1 - p.2.1) * (c.1 - p.1)) * s) = true := decide_eq_true ht
    have ht := hide ht
    go_quiet (fail)
    go_wp2_with fail
    clear z1 z2 z3 z4 z5 z6 z7 z8 p0 p1 p2 q0 q1 q2 c0 c1 c2 fp0 fp1 fp2 fq0 fq1 fq2 jm htt
    obtain ⟨Y, hY⟩ : ∃ Y, Y = ((((((X.drewN nq).setCell ⟨w.heap.size, 0, none⟩ (.int .i64 q.1)).setCell ⟨w.heap.size, 1, none⟩ (.int .i64 q.2.1)).setCell ⟨w.heap.size, 2, none⟩ (.int .i64 q.2.2)).setCell ⟨w.heap.size + 1, 0, none⟩ (.int .i64 p.1)).setCell ⟨w.heap.size + 1, 1, none⟩ (.int .i64 p.2.1)).setCell ⟨w.heap.size + 1, 2, none⟩ (.int .i64 p.2.2) := ⟨_, rfl⟩
    rw [← hY]
    have hYp : Blk Y w.heap.size 61 #[.int .i64 q.1, .int .i64 q.2.1, .int .i64 q.2.2] := by rw [hY]; exact ((HX.out.2.1.drewN nq).set3 _ _ _).far3 (by omega) _ _ _
    have hYq : Blk Y (w.heap.size + 1) 61 #[.int .i64 p.1, .int .i64 p.2.1, .int .i64 p.2.2] := by rw [hY]; exact ((HX.out.2.2.1.drewN nq).far3 (by omega) _ _ _).set3 _ _ _
    have hYB : Below w.heap.size w Y := by rw [hY]; exact ((((((below_drewN HX.out.1 nq).setCell (by simp) _).setCell (by simp) _).setCell (by simp) _).setCell (by simp) _).setCell (by simp) _).setCell (by simp) _
    have hJY := HJ.out.1.below hYB hlt hltm
    have hSY : (fun W => W.cell? ⟨bj, 8, none⟩ = some (.map (some mb)) ∧ (W.cell? ⟨w.heap.size, 0, none⟩ = some (.int .i64 q.1) ∧ W.cell? ⟨w.heap.size, 1, none⟩ = some (.int .i64 q.2.1) ∧ W.cell? ⟨w.heap.size, 2, none⟩ = some (.int .i64 q.2.2)) ∧ (W.cell? ⟨w.heap.size + 1, 0, none⟩ = some (.int .i64 p.1) ∧ W.cell? ⟨w.heap.size + 1, 1, none⟩ = some (.int .i64 p.2.1) ∧ W.cell? ⟨w.heap.size + 1, 2, none⟩ = some (.int .i64 p.2.2))) Y.drew := ⟨hJY.map_, hYp.three, hYq.three⟩
    have HY := hide (And.intro hSY (And.intro hJY hYB))
    clear hSY hJY hYB hYp hYq hY
    refine wp_region_mix (fun W => W.cell? ⟨bj, 8, none⟩ = some (.map (some mb)) ∧ (W.cell? ⟨w.heap.size, 0, none⟩ = some (.int .i64 q.1) ∧ W.cell? ⟨w.heap.size, 1, none⟩ = some (.int .i64 q.2.1) ∧ W.cell? ⟨w.heap.size, 2, none⟩ = some (.int .i64 q.2.2)) ∧ (W.cell? ⟨w.heap.size + 1, 0, none⟩ = some (.int .i64 p.1) ∧ W.cell? ⟨w.heap.size + 1, 1, none⟩ = some (.int .i64 p.2.1) ∧ W.cell? ⟨w.heap.size + 1, 2, none⟩ = some (.int .i64 p.2.2))) [0, 1, 2, 3, 4, 5] [0, 1, 2, 3, 4, 5, 6] mixed_ok (by kernel_rfl) ?_
    refine wpMix_q (v := .pointer (some ⟨bj, 0, none⟩)) rfl rfl (fun _ _ _ h => h) HY.out.1 ⟨rfl, fun W' h' => by simp [go_sem]⟩ ?_
    refine wpMix_q (v := .pointer (some ⟨bj, 0, none⟩)) rfl rfl (fun _ _ _ h => h) HY.out.1 ⟨rfl, fun W' h' => by simp [go_sem]⟩ ?_
    refine wpMix_q (v := .pointer (some ⟨bj, 8, none⟩)) rfl rfl (fun _ _ _ h => h) HY.out.1 ⟨rfl, fun W' h' => by simp [go_sem]⟩ ?_
    refine wpMix_q (v := .map (some mb)) rfl rfl (fun _ _ _ h => h) HY.out.1 ⟨rfl, fun W' h' => by simp [go_sem, h'.1]⟩ ?_
    refine wpMix_q (v := vP q) rfl rfl (fun _ _ _ h => h) HY.out.1 ⟨rfl, fun W' h' => by obtain ⟨_, ⟨a0, a1, a2⟩, _⟩ := h'; simp [go_sem, a0, a1, a2]⟩ ?_
    refine wpMix_q (v := vP p) rfl rfl (fun _ _ _ h => h) HY.out.1 ⟨rfl, fun W' h' => by obtain ⟨_, _, a0, a1, a2⟩ := h'; simp [go_sem, a0, a1, a2]⟩ ?_
    refine wpMix_tail _ [_] (by kernel_rfl) rfl ?_
    simp only [List.getElem_toArray, List.getElem_cons_succ, List.getElem_cons_zero]
    obtain ⟨w5, hrun, hm5, hg5, hz5⟩ := (show MapK Try.prog 61 vP fitsP Y.drew mb n (lkV ms) from HY.out.2.1.2).update kfV (t := 75) (e := 61) Try.underlying75 (by unfold maxLen; omega) q HJ.out.2.2.2.2.2 (vP p)
    have hres : joinJ p q v 2 pos = (q, p) := by rw [HJ.out.2.1, HJ.out.2.2.1]; exact if_pos ht.out
    have hJ5 : Jn w5 bj mb (n + 1) ins (ms ++ [joinJ p q v 2 pos]) := by
      rw [hres]
      refine ⟨HY.out.2.1.1.drew.grown (row := some mb) hg5 (fun e => HJ.out.1.ne (by injection e)), hm5.same fun x => ?_⟩
      rw [lkV_snoc]
    have hg0 : w.grownBy w5 (some mb) := grown_below' HY.out.2.2.drew hg5
    have H5 := hide (And.intro hJ5 hg0)
    clear hm5 hg5 hz5 hres hJ5 hg0
    go_wp2
    go_end0
    exact ⟨rfl, H5.out.1, H5.out.2⟩
  · have htt : decide (0 < ((q.1 - p.1) * (c.2.1 - p.2.1) - (q.2.1 - p.2.1) * (c.1 - p.1)) * s) = false := decide_eq_false ht
    have ht := hide ht
    go_quiet (fail)
    go_wp2_with fail
    clear z1 z2 z3 z4 z5 z6 z7 z8 p0 p1 p2 q0 q1 q2 c0 c1 c2 fp0 fp1 fp2 fq0 fq1 fq2 jm htt
    obtain ⟨Y, hY⟩ : ∃ Y, Y = X.drewN nq := ⟨_, rfl⟩
    rw [← hY]
    have hYp : Blk Y w.heap.size 61 #[.int .i64 p.1, .int .i64 p.2.1, .int .i64 p.2.2] := by rw [hY]; exact HX.out.2.1.drewN nq
    have hYq : Blk Y (w.heap.size + 1) 61 #[.int .i64 q.1, .int .i64 q.2.1, .int .i64 q.2.2] := by rw [hY]; exact HX.out.2.2.1.drewN nq
    have hYB : Below w.heap.size w Y := by rw [hY]; exact below_drewN HX.out.1 nq
    have hJY := HJ.out.1.below hYB hlt hltm
    have hSY : (fun W => W.cell? ⟨bj, 8, none⟩ = some (.map (some mb)) ∧ (W.cell? ⟨w.heap.size, 0, none⟩ = some (.int .i64 p.1) ∧ W.cell? ⟨w.heap.size, 1, none⟩ = some (.int .i64 p.2.1) ∧ W.cell? ⟨w.heap.size, 2, none⟩ = some (.int .i64 p.2.2)) ∧ (W.cell? ⟨w.heap.size + 1, 0, none⟩ = some (.int .i64 q.1) ∧ W.cell? ⟨w.heap.size + 1, 1, none⟩ = some (.int .i64 q.2.1) ∧ W.cell? ⟨w.heap.size + 1, 2, none⟩ = some (.int .i64 q.2.2))) Y.drew := ⟨hJY.map_, hYp.three, hYq.three⟩
    have HY := hide (And.intro hSY (And.intro hJY hYB))
    clear hSY hJY hYB hYp hYq hY
    refine wp_region_mix (fun W => W.cell? ⟨bj, 8, none⟩ = some (.map (some mb)) ∧ (W.cell? ⟨w.heap.size, 0, none⟩ = some (.int .i64 p.1) ∧ W.cell? ⟨w.heap.size, 1, none⟩ = some (.int .i64 p.2.1) ∧ W.cell? ⟨w.heap.size, 2, none⟩ = some (.int .i64 p.2.2)) ∧ (W.cell? ⟨w.heap.size + 1, 0, none⟩ = some (.int .i64 q.1) ∧ W.cell? ⟨w.heap.size + 1, 1, none⟩ = some (.int .i64 q.2.1) ∧ W.cell? ⟨w.heap.size + 1, 2, none⟩ = some (.int .i64 q.2.2))) [0, 1, 2, 3, 4, 5] [0, 1, 2, 3, 4, 5, 6] mixed_ok (by kernel_rfl) ?_
    refine wpMix_q (v := .pointer (some ⟨bj, 0, none⟩)) rfl rfl (fun _ _ _ h => h) HY.out.1 ⟨rfl, fun W' h' => by simp [go_sem]⟩ ?_
    refine wpMix_q (v := .pointer (some ⟨bj, 0, none⟩)) rfl rfl (fun _ _ _ h => h) HY.out.1 ⟨rfl, fun W' h' => by simp [go_sem]⟩ ?_
    refine wpMix_q (v := .pointer (some ⟨bj, 8, none⟩)) rfl rfl (fun _ _ _ h => h) HY.out.1 ⟨rfl, fun W' h' => by simp [go_sem]⟩ ?_
    refine wpMix_q (v := .map (some mb)) rfl rfl (fun _ _ _ h => h) HY.out.1 ⟨rfl, fun W' h' => by simp [go_sem, h'.1]⟩ ?_
    refine wpMix_q (v := vP p) rfl rfl (fun _ _ _ h => h) HY.out.1 ⟨rfl, fun W' h' => by obtain ⟨_, ⟨a0, a1, a2⟩, _⟩ := h'; simp [go_sem, a0, a1, a2]⟩ ?_
    refine wpMix_q (v := vP q) rfl rfl (fun _ _ _ h => h) HY.out.1 ⟨rfl, fun W' h' => by obtain ⟨_, _, a0, a1, a2⟩ := h'; simp [go_sem, a0, a1, a2]⟩ ?_
    refine wpMix_tail _ [_] (by kernel_rfl) rfl ?_
    simp only [List.getElem_toArray, List.getElem_cons_succ, List.getElem_cons_zero]
    obtain ⟨w5, hrun, hm5, hg5, hz5⟩ := (show MapK Try.prog 61 vP fitsP Y.drew mb n (lkV ms) from HY.out.2.1.2).update kfV (t := 75) (e := 61) Try.underlying75 (by unfold maxLen; omega) p HJ.out.2.2.2.2.1 (vP q)
    have hres : joinJ p q v 2 pos = (p, q) := by rw [HJ.out.2.1, HJ.out.2.2.1]; exact if_neg (Int.not_lt.2 ht.out)
    have hJ5 : Jn w5 bj mb (n + 1) ins (ms ++ [joinJ p q v 2 pos]) := by
      rw [hres]
      refine ⟨HY.out.2.1.1.drew.grown (row := some mb) hg5 (fun e => HJ.out.1.ne (by injection e)), hm5.same fun x => ?_⟩
      rw [lkV_snoc]
    have hg0 : w.grownBy w5 (some mb) := grown_below' HY.out.2.2.drew hg5
    have H5 := hide (And.intro hJ5 hg0)
    clear hm5 hg5 hz5 hres hJ5 hg0
    go_wp2
    go_end0
    exact ⟨rfl, H5.out.1, H5.out.2⟩
end Go.Proofs.Ytfljcgehhnmamaa
