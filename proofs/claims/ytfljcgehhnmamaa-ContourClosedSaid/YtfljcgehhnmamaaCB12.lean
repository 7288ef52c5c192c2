/- Joined texts: Pnt. -/
import Derived.Deep.QuietTactic
import Derived.BigQuiet
import Derived.IntWalk
import Derived.Test.YtfljcgehhnmamaaCB7
import Derived.Test.YtfljcgehhnmamaaCB10
/- (contour.grid).point and its closure. -/
namespace Go.Proofs.Ytfljcgehhnmamaa
open Go.RowKit
/-- The cell c and the side h fit. -/
def cellOk (c : Pt) (h : Int) : Prop := (0 ≤ h ∧ h ≤ 2097152) ∧ (0 ≤ c.1 * h ∧ c.1 * h + h ≤ 2097152) ∧ (0 ≤ c.2.1 * h ∧ c.2.1 * h + h ≤ 2097152) ∧ (0 ≤ c.2.2 * h ∧ c.2.2 * h + h ≤ 2097152)
theorem small_half {x h : Int} (hx : 0 ≤ x ∧ x ≤ 2) (hh : 0 ≤ h ∧ h ≤ 2097152) : 0 ≤ x * (h / 2) ∧ x * (h / 2) ≤ h := by
  have hc : x = 0 ∨ x = 1 ∨ x = 2 := by omega
  rcases hc with rfl | rfl | rfl <;> omega
theorem pointP_grid {c p : Pt} {h : Int} (hc : cellOk c h) (hp : smallP p) : gridP (pointP c h p) := by
  obtain ⟨hh, ⟨a1, a2⟩, ⟨b1, b2⟩, c1, c2⟩ := hc
  obtain ⟨p0, p1, p2⟩ := hp
  have q0 := small_half p0 hh
  have q1 := small_half p1 hh
  have q2 := small_half p2 hh
  unfold gridP pointP
  refine ⟨⟨?_, ?_⟩, ⟨?_, ?_⟩, ?_, ?_⟩ <;> (dsimp only; omega)
set_option maxRecDepth 100000 in
set_option maxHeartbeats 4000000 in
theorem pnt1_0 (bc bg bp : Nat) (c p : Pt) (h n : Int) (vi : Value) (w : World) (hbc : Blk w bc 61 #[.int .i64 c.1, .int .i64 c.2.1, .int .i64 c.2.2]) (hbg : Blk w bg 57 #[vi, .int .i64 n, .int .i64 h]) (hbp : Blk w bp 61 #[.int .i64 p.1, .int .i64 p.2.1, .int .i64 p.2.2]) (hc : cellOk c h) (hp : smallP p) :
    Calls Try.prog 70 #[.int .i64 0, .pointer (some ⟨bc, 0, none⟩), .pointer (some ⟨bg, 0, none⟩), .pointer (some ⟨bp, 0, none⟩)] w fun e w' => e = .returned (.int .i64 (pointP c h p).1) ∧ ∃ k, w' = w.drewN k := by
  have hv : (pointP c h p).1 = c.1 * h + p.1 * (h / 2) := rfl
  obtain ⟨hh, ⟨a1, a2⟩, ⟨b1, b2⟩, c1, c2⟩ := hc
  obtain ⟨p0, p1, p2⟩ := hp
  have q0 := small_half p0 hh
  have q1 := small_half p1 hh
  have q2 := small_half p2 hh
  have z1 : IntKind.i64.wrap (c.1 * h) = c.1 * h := IntWalk.i64_in _ (by omega)
  have z2 : IntKind.i64.wrap (h / 2) = h / 2 := IntWalk.i64_in _ (by omega)
  have z3 : IntKind.i64.wrap (p.1 * (h / 2)) = p.1 * (h / 2) := IntWalk.i64_in _ (by omega)
  have z4 : IntKind.i64.wrap (c.1 * h + p.1 * (h / 2)) = c.1 * h + p.1 * (h / 2) := IntWalk.i64_in _ (by omega)
  have z5 : h.tdiv 2 = h / 2 := Int.tdiv_eq_ediv_of_nonneg hh.1
  have y0 := hbc.cell 0
  have y1 := hbp.cell 0
  have y2 := hbg.cell 2
  simp only [List.getElem?_toArray, List.getElem?_cons_zero, List.getElem?_cons_succ] at y0 y1 y2
  have HV := hide hv
  clear hv q0 q1 q2 p0 p1 p2 a1 a2 b1 b2 c1 c2 hbc hbg hbp
  go_enter Try.func70, Try.ntmps70
  go_wp2_with fail
  go_quiet (fail)
  go_wp2
  go_ret
  exact ⟨by rw [HV.out]; rfl, _, rfl⟩
set_option maxRecDepth 100000 in
set_option maxHeartbeats 4000000 in
theorem pnt1_1 (bc bg bp : Nat) (c p : Pt) (h n : Int) (vi : Value) (w : World) (hbc : Blk w bc 61 #[.int .i64 c.1, .int .i64 c.2.1, .int .i64 c.2.2]) (hbg : Blk w bg 57 #[vi, .int .i64 n, .int .i64 h]) (hbp : Blk w bp 61 #[.int .i64 p.1, .int .i64 p.2.1, .int .i64 p.2.2]) (hc : cellOk c h) (hp : smallP p) :
    Calls Try.prog 70 #[.int .i64 1, .pointer (some ⟨bc, 0, none⟩), .pointer (some ⟨bg, 0, none⟩), .pointer (some ⟨bp, 0, none⟩)] w fun e w' => e = .returned (.int .i64 (pointP c h p).2.1) ∧ ∃ k, w' = w.drewN k := by
  have hv : (pointP c h p).2.1 = c.2.1 * h + p.2.1 * (h / 2) := rfl
  obtain ⟨hh, ⟨a1, a2⟩, ⟨b1, b2⟩, c1, c2⟩ := hc
  obtain ⟨p0, p1, p2⟩ := hp
  have q0 := small_half p0 hh
  have q1 := small_half p1 hh
  have q2 := small_half p2 hh
  have z1 : IntKind.i64.wrap (c.2.1 * h) = c.2.1 * h := IntWalk.i64_in _ (by omega)
  have z2 : IntKind.i64.wrap (h / 2) = h / 2 := IntWalk.i64_in _ (by omega)
  have z3 : IntKind.i64.wrap (p.2.1 * (h / 2)) = p.2.1 * (h / 2) := IntWalk.i64_in _ (by omega)
  have z4 : IntKind.i64.wrap (c.2.1 * h + p.2.1 * (h / 2)) = c.2.1 * h + p.2.1 * (h / 2) := IntWalk.i64_in _ (by omega)
  have z5 : h.tdiv 2 = h / 2 := Int.tdiv_eq_ediv_of_nonneg hh.1
  have y0 := hbc.cell 1
  have y1 := hbp.cell 1
  have y2 := hbg.cell 2
  simp only [List.getElem?_toArray, List.getElem?_cons_zero, List.getElem?_cons_succ] at y0 y1 y2
  have HV := hide hv
  clear hv q0 q1 q2 p0 p1 p2 a1 a2 b1 b2 c1 c2 hbc hbg hbp
  go_enter Try.func70, Try.ntmps70
  go_wp2_with fail
  go_quiet (fail)
  go_wp2
  go_ret
  exact ⟨by rw [HV.out]; rfl, _, rfl⟩
set_option maxRecDepth 100000 in
set_option maxHeartbeats 4000000 in
theorem pnt1_2 (bc bg bp : Nat) (c p : Pt) (h n : Int) (vi : Value) (w : World) (hbc : Blk w bc 61 #[.int .i64 c.1, .int .i64 c.2.1, .int .i64 c.2.2]) (hbg : Blk w bg 57 #[vi, .int .i64 n, .int .i64 h]) (hbp : Blk w bp 61 #[.int .i64 p.1, .int .i64 p.2.1, .int .i64 p.2.2]) (hc : cellOk c h) (hp : smallP p) :
    Calls Try.prog 70 #[.int .i64 2, .pointer (some ⟨bc, 0, none⟩), .pointer (some ⟨bg, 0, none⟩), .pointer (some ⟨bp, 0, none⟩)] w fun e w' => e = .returned (.int .i64 (pointP c h p).2.2) ∧ ∃ k, w' = w.drewN k := by
  have hv : (pointP c h p).2.2 = c.2.2 * h + p.2.2 * (h / 2) := rfl
  obtain ⟨hh, ⟨a1, a2⟩, ⟨b1, b2⟩, c1, c2⟩ := hc
  obtain ⟨p0, p1, p2⟩ := hp
  have q0 := small_half p0 hh
  have q1 := small_half p1 hh
  have q2 := small_half p2 hh
  have z1 : IntKind.i64.wrap (c.2.2 * h) = c.2.2 * h := IntWalk.i64_in _ (by omega)
  have z2 : IntKind.i64.wrap (h / 2) = h / 2 := IntWalk.i64_in _ (by omega)
  have z3 : IntKind.i64.wrap (p.2.2 * (h / 2)) = p.2.2 * (h / 2) := IntWalk.i64_in _ (by omega)
  have z4 : IntKind.i64.wrap (c.2.2 * h + p.2.2 * (h / 2)) = c.2.2 * h + p.2.2 * (h / 2) := IntWalk.i64_in _ (by omega)
  have z5 : h.tdiv 2 = h / 2 := Int.tdiv_eq_ediv_of_nonneg hh.1
  have y0 := hbc.cell 2
  have y1 := hbp.cell 2
  have y2 := hbg.cell 2
  simp only [List.getElem?_toArray, List.getElem?_cons_zero, List.getElem?_cons_succ] at y0 y1 y2
  have HV := hide hv
  clear hv q0 q1 q2 p0 p1 p2 a1 a2 b1 b2 c1 c2 hbc hbg hbp
  go_enter Try.func70, Try.ntmps70
  go_wp2_with fail
  go_quiet (fail)
  go_wp2
  go_ret
  exact ⟨by rw [HV.out]; rfl, _, rfl⟩
set_option maxRecDepth 100000 in
set_option maxHeartbeats 8000000 in
theorem point_any (c p : Pt) (h n : Int) (A : Option Addr) (m k : Nat) (w : World) (hc : cellOk c h) (hp : smallP p) :
    Calls Try.prog 43 #[.agg #[.slice A m k, .int .i64 n, .int .i64 h], vP c, vP p] w fun e w' => e = .returned (vP (pointP c h p)) ∧ Below w.heap.size w w' := by
  obtain ⟨V, hV⟩ : ∃ V, V = (((w.alloc (.cells #[.slice A m k, .int .i64 n, .int .i64 h] 57)).alloc (.cells #[.int .i64 c.1, .int .i64 c.2.1, .int .i64 c.2.2] 61)).alloc (.cells #[.int .i64 p.1, .int .i64 p.2.1, .int .i64 p.2.2] 61)).alloc (.cells #[.int .i64 0, .int .i64 0, .int .i64 0] 38) := ⟨_, rfl⟩
  have hBV : Below w.heap.size w V := by rw [hV]; exact ((((Below.refl _ w).alloc (Nat.le_refl _) _).alloc (by simp) _).alloc (by simp; omega) _).alloc (by simp; omega) _
  have hg : Blk V w.heap.size 57 #[.slice A m k, .int .i64 n, .int .i64 h] := by rw [hV]; exact (((Blk.new _ _ _).alloc _).alloc _).alloc _
  have hbc : Blk V (w.heap.size + 1) 61 #[.int .i64 c.1, .int .i64 c.2.1, .int .i64 c.2.2] := by rw [hV]; exact ((Blk.new' _ _ _ _ (by simp)).alloc _).alloc _
  have hbp : Blk V (w.heap.size + 2) 61 #[.int .i64 p.1, .int .i64 p.2.1, .int .i64 p.2.2] := by rw [hV]; exact (Blk.new' _ _ _ _ (by simp)).alloc _
  have hbr : Blk V (w.heap.size + 3) 38 #[.int .i64 0, .int .i64 0, .int .i64 0] := by rw [hV]; exact Blk.new' _ _ _ _ (by simp)
  have HV := hide (And.intro hBV (And.intro hg (And.intro hbc (And.intro hbp hbr))))
  have HE := hide hV
  clear hBV hg hbc hbp hbr hV
  go_enter Try.func43, Try.ntmps43
  go_wp2_with fail
  rw [← HE.out]
  with_reducible refine (pnt1_0 (w.heap.size + 1) w.heap.size (w.heap.size + 2) c p h n (.slice A m k) V HV.out.2.2.1 HV.out.2.1 HV.out.2.2.2.1 hc hp).mono ?_
  rintro e w1 ⟨rfl, n1, rfl⟩
  go_wp2_with fail
  with_reducible refine (pnt1_1 (w.heap.size + 1) w.heap.size (w.heap.size + 2) c p h n (.slice A m k) (V.drewN n1) (HV.out.2.2.1.drewN n1) (HV.out.2.1.drewN n1) (HV.out.2.2.2.1.drewN n1) hc hp).mono ?_
  rintro e w2 ⟨rfl, n2, rfl⟩
  go_wp2_with fail
  with_reducible refine (pnt1_2 (w.heap.size + 1) w.heap.size (w.heap.size + 2) c p h n (.slice A m k) (V.drewN (n1 + n2)) (HV.out.2.2.1.drewN _) (HV.out.2.1.drewN _) (HV.out.2.2.2.1.drewN _) hc hp).mono ?_
  rintro e w3 ⟨rfl, n3, rfl⟩
  obtain ⟨W, hW⟩ : ∃ W, W = (V.drewN (n1 + n2)).drewN n3 := ⟨_, rfl⟩
  rw [← hW]
  have hbr : Blk W (w.heap.size + 3) 38 #[.int .i64 0, .int .i64 0, .int .i64 0] := by rw [hW]; exact (HV.out.2.2.2.2.drewN _).drewN _
  have hBW : Below w.heap.size w W := by rw [hW]; exact below_drewN (below_drewN HV.out.1 _) _
  obtain ⟨r, hr⟩ : ∃ r, r = pointP c h p := ⟨_, rfl⟩
  rw [← hr]
  obtain ⟨s0, s1, s2⟩ := hbr.three
  have f0 := hbr.frozen 0
  have f1 := hbr.frozen 1
  have f2 := hbr.frozen 2
  have HB := hide (And.intro hbr (And.intro hBW hr))
  clear hbr hBW hr hW
  go_wp2
  refine ret_at (v := vP r) (fun Z => Blk Z (w.heap.size + 3) 38 #[.int .i64 r.1, .int .i64 r.2.1, .int .i64 r.2.2]) (HB.out.1.set3 _ _ _) (fun Z hz => ?_) rfl ⟨by rw [HB.out.2.2], ((HB.out.2.1.setCell (by dsimp only; omega) _).setCell (by dsimp only; omega) _).setCell (by dsimp only; omega) _⟩
  obtain ⟨a0, a1, a2⟩ := hz.three
  simp [results, Try.results43, go_sem, a0, a1, a2]
end Go.Proofs.Ytfljcgehhnmamaa
