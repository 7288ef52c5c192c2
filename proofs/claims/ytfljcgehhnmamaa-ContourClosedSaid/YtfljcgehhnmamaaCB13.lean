/- Joined texts: Vert. -/
import Derived.Deep.QuietTactic
import Derived.BigQuiet
import Derived.IntWalk
import Derived.Test.YtfljcgehhnmamaaCB6
import Derived.Test.YtfljcgehhnmamaaCB7
/- (contour.grid).vertices. -/
namespace Go.Proofs.Ytfljcgehhnmamaa
open Go.RowKit
def encBl (b : Bool) : List Value := [.bool b]
/-- Where vertex v of the cell x, y, z stands in a field. -/
def vtx (s x y z v : Nat) : Nat := ((z + v / 4 % 2) * s + y + v / 2 % 2) * s + x + v % 2
def insF (F : List Bool) (s x y z v : Nat) : Bool := F.getD (vtx s x y z v) false
def mixN (ins : Nat → Bool) (k : Nat) : Bool := (List.range k).any fun v => ins v != ins 0
theorem mixN_succ (ins : Nat → Bool) (k : Nat) : mixN ins (k + 1) = (mixN ins k || (ins k != ins 0)) := by
  unfold mixN
  rw [List.range_succ, List.any_append]
  simp
def arr8 (ins : Nat → Bool) (k : Nat) : Array Value := #[.bool (decide (0 < k) && ins 0), .bool (decide (1 < k) && ins 1), .bool (decide (2 < k) && ins 2), .bool (decide (3 < k) && ins 3), .bool (decide (4 < k) && ins 4), .bool (decide (5 < k) && ins 5), .bool (decide (6 < k) && ins 6), .bool (decide (7 < k) && ins 7)]
theorem arr8_set (ins : Nat → Bool) {k : Nat} (hk : k < 8) : (arr8 ins k).setIfInBounds k (.bool (ins k)) = arr8 ins (k + 1) := by
  have hc : k = 0 ∨ k = 1 ∨ k = 2 ∨ k = 3 ∨ k = 4 ∨ k = 5 ∨ k = 6 ∨ k = 7 := by omega
  rcases hc with rfl | rfl | rfl | rfl | rfl | rfl | rfl | rfl <;> simp [arr8]
theorem arr8_get (ins : Nat → Bool) {k i : Nat} (hi : i < k) (hk : k ≤ 8) : (arr8 ins k)[i]? = some (.bool (ins i)) := by
  have hc : i = 0 ∨ i = 1 ∨ i = 2 ∨ i = 3 ∨ i = 4 ∨ i = 5 ∨ i = 6 ∨ i = 7 := by omega
  rcases hc with rfl | rfl | rfl | rfl | rfl | rfl | rfl | rfl <;> simp [arr8, decide_eq_true hi]
theorem arr8_some (ins : Nat → Bool) (k : Nat) {i : Nat} (hi : i < 8) : ∃ b, (arr8 ins k)[i]? = some (.bool b) := by
  have hc : i = 0 ∨ i = 1 ∨ i = 2 ∨ i = 3 ∨ i = 4 ∨ i = 5 ∨ i = 6 ∨ i = 7 := by omega
  rcases hc with rfl | rfl | rfl | rfl | rfl | rfl | rfl | rfl <;> exact ⟨_, rfl⟩
theorem arr8_all (ins : Nat → Bool) : arr8 ins 8 = #[.bool (ins 0), .bool (ins 1), .bool (ins 2), .bool (ins 3), .bool (ins 4), .bool (ins 5), .bool (ins 6), .bool (ins 7)] := rfl
theorem vtx_lt {s x y z v : Nat} (hx : x + 1 < s) (hy : y + 1 < s) (hz : z + 1 < s) : vtx s x y z v < s * s * s := by
  unfold vtx
  have h1 : v % 2 ≤ 1 := by omega
  have h2 : v / 2 % 2 ≤ 1 := by omega
  have h3 : v / 4 % 2 ≤ 1 := by omega
  generalize v % 2 = a at *
  generalize v / 2 % 2 = b at *
  generalize v / 4 % 2 = c at *
  have e1 : (z + c) * s + (y + b) + 1 ≤ s * s := by
    have : (z + c + 1) * s ≤ s * s := Nat.mul_le_mul_right s (by omega)
    rw [Nat.add_mul, Nat.one_mul] at this
    omega
  have e2 : ((z + c) * s + (y + b) + 1) * s ≤ s * s * s := Nat.mul_le_mul_right s e1
  rw [Nat.add_mul, Nat.one_mul] at e2
  have e3 : (z + c) * s + y + b = (z + c) * s + (y + b) := by omega
  rw [e3]
  omega
theorem encBl_get {F : List Bool} {i : Nat} (h : i < F.length) : F[i]? = some (F.getD i false) := by
  rw [List.getD_eq_getElem?_getD, List.getElem?_eq_getElem h]; rfl
set_option maxRecDepth 100000 in
set_option maxHeartbeats 16000000 in
theorem vertices_any (F : List Bool) (A : Option Addr) (cap n x y z : Nat) (h : Int) (w : World) (hs : Sl encBl 1 w w.heap.size A F) (hx : x < n) (hy : y < n) (hz : z < n) (hn : n ≤ 256) (hF : F.length = (n + 1) * (n + 1) * (n + 1)) :
    Calls Try.prog 40 #[.agg #[.slice A F.length cap, .int .i64 n, .int .i64 h], .agg #[.int .i64 x, .int .i64 y, .int .i64 z]] w fun e w' => e = .returned (.tuple #[.agg (arr8 (insF F (n + 1) x y z) 8), .bool (mixN (insF F (n + 1) x y z) 8)]) ∧ Below w.heap.size w w' := by
  obtain ⟨b, o, rfl, hbw, _⟩ := hs.at (encBl_get (F := F) (i := 0) (by rw [hF]; exact Nat.mul_pos (Nat.mul_pos (by omega) (by omega)) (by omega)))
  obtain ⟨ins, hins⟩ : ∃ ins, ins = insF F (n + 1) x y z := ⟨_, rfl⟩
  rw [← hins]
  have HS := hide (And.intro hs (And.intro hins hF))
  obtain ⟨L, hL⟩ : ∃ L, L = F.length := ⟨_, rfl⟩
  rw [← hL]
  have HL := hide hL
  clear hs hins hL hF
  go_enter Try.func40, Try.ntmps40
  go_wp2_with fail
  obtain ⟨V, hV⟩ : ∃ V, V = ((w.alloc (.cells #[.slice (some ⟨b, o, none⟩) L cap, .int .i64 n, .int .i64 h] 57)).alloc (.cells #[.int .i64 x, .int .i64 y, .int .i64 z] 61)).alloc (.cells #[.bool false, .bool false, .bool false, .bool false, .bool false, .bool false, .bool false, .bool false] 71) := ⟨_, rfl⟩
  rw [← hV]
  have hBV : Below w.heap.size w V := by rw [hV]; exact (((Below.refl _ w).alloc (Nat.le_refl _) _).alloc (by simp) _).alloc (by simp; omega) _
  have hg : Blk V w.heap.size 57 #[.slice (some ⟨b, o, none⟩) L cap, .int .i64 n, .int .i64 h] := by rw [hV]; exact ((Blk.new _ _ _).alloc _).alloc _
  have hc : Blk V (w.heap.size + 1) 61 #[.int .i64 x, .int .i64 y, .int .i64 z] := by rw [hV]; exact (Blk.new' _ _ _ _ (by simp)).alloc _
  have hr : Blk V (w.heap.size + 1 + 1) 71 (arr8 ins 0) := by rw [hV]; exact Blk.new' _ _ _ _ (by simp)
  have hzV : V.heap.size = w.heap.size + 3 := by rw [hV]; simp
  have HV := hide (And.intro hBV (And.intro hg (And.intro hc hr)))
  clear hBV hg hc hr hV
  go_loopw [5, 12] (fun mv iv wr => ∃ k : Nat, k ≤ 8 ∧ iv = .int .i64 k ∧ mv = .bool (mixN ins k) ∧ Blk wr (w.heap.size + 1 + 1) 71 (arr8 ins k) ∧ Below (w.heap.size + 1 + 1) V wr) (fun _ iv _ => 8 - (intOf iv).toNat)
  case atStart => exact ⟨0, by omega, rfl, rfl, HV.out.2.2.2, Below.refl _ V⟩
  case round =>
    obtain ⟨k, hk, rfl, rfl, hbr, hB⟩ := hrel
    have hszB := hB.size
    have hltr := hbr.lt
    obtain ⟨mx, hmx⟩ : ∃ mx, mx = mixN ins k := ⟨_, rfl⟩
    rw [← hmx]
    by_cases hlt : k < 8
    · have HR := hide (And.intro hmx (And.intro hbr hB))
      clear hmx hbr hB
      have i1 : (k : Int) < 8 := by omega
      go_wp2_with fail
      refine (corner_any k hlt _).mono ?_
      rintro e w1 ⟨rfl, hB1⟩
      have hbd := cornerP_bd k
      have hcp : cornerP k = (((2 * (k % 2) : Nat) : Int), ((2 * (k / 2 % 2) : Nat) : Int), ((2 * (k / 4 % 2) : Nat) : Int)) := rfl
      obtain ⟨p, hp⟩ : ∃ p, p = cornerP k := ⟨_, rfl⟩
      rw [← hp] at hbd hcp ⊢
      obtain ⟨c0, c1, c2⟩ := p
      simp only [Prod.mk.injEq] at hcp
      dsimp only at hbd
      have hB' := HR.out.2.2
      have hk2 : w.heap.size + 1 + 1 < wr.heap.size := hltr
      have hsz1 := hB1.size
      have hg1 : Blk w1 w.heap.size 57 #[.slice (some ⟨b, o, none⟩) L cap, .int .i64 n, .int .i64 h] := (HV.out.2.1.below hB' (by omega)).below hB1 (by omega)
      have hv1 : Blk w1 (w.heap.size + 1) 61 #[.int .i64 x, .int .i64 y, .int .i64 z] := (HV.out.2.2.1.below hB' (by omega)).below hB1 (by omega)
      have hr1 : Blk w1 (w.heap.size + 1 + 1) 71 (arr8 ins k) := HR.out.2.1.below hB1 (by omega)
      have hs1 : Sl encBl 1 w1 w.heap.size (some ⟨b, o, none⟩) F := ((HS.out.1.below HV.out.1).below (Below.mono hB' (by omega))).below (Below.mono hB1 (by omega))
      obtain ⟨K, hK⟩ : ∃ K, K = vtx (n + 1) x y z k := ⟨_, rfl⟩
      have hKF : K < F.length := by rw [hK, HS.out.2.2]; exact vtx_lt (by omega) (by omega) (by omega)
      have hKv : ins k = F.getD K false := by rw [hK, HS.out.2.1]; rfl
      obtain ⟨b', o', hbo, _, hcl⟩ := hs1.at (encBl_get hKF)
      cases hbo
      have hcK := hcl 0 _ rfl
      rw [← hKv] at hcK
      simp only [Nat.mul_one, Nat.add_zero] at hcK
      obtain ⟨m1, hm1⟩ : ∃ m1, m1 = (z + k / 4 % 2) * (n + 1) := ⟨_, rfl⟩
      obtain ⟨m2, hm2⟩ : ∃ m2, m2 = (m1 + y + k / 2 % 2) * (n + 1) := ⟨_, rfl⟩
      have hm1b : m1 ≤ 66049 := by rw [hm1]; exact (Nat.mul_le_mul (show z + k / 4 % 2 ≤ 257 by omega) (show n + 1 ≤ 257 by omega))
      have hm2b : m2 ≤ 17041671 := by rw [hm2]; exact Nat.le_trans (Nat.mul_le_mul (show m1 + y + k / 2 % 2 ≤ 66306 by omega) (show n + 1 ≤ 257 by omega)) (by omega)
      have hKe : K = m2 + x + k % 2 := by rw [hK, hm2, hm1]; rfl
      have e0 : c0 / 2 = ((k % 2 : Nat) : Int) := by omega
      have e1 : c1 / 2 = ((k / 2 % 2 : Nat) : Int) := by omega
      have e2 : c2 / 2 = ((k / 4 % 2 : Nat) : Int) := by omega
      have t1 : ((z : Int) + c2 / 2) * ((n : Int) + 1) = (m1 : Int) := by rw [e2, hm1]; push_cast; rfl
      have z1 : IntKind.i64.wrap (((z : Int) + c2 / 2) * ((n : Int) + 1)) = (m1 : Int) := by rw [t1]; exact IntWalk.i64_in _ (by omega)
      have t2 : ((m1 : Int) + y + c1 / 2) * ((n : Int) + 1) = (m2 : Int) := by rw [e1, hm2]; push_cast; rfl
      have z2 : IntKind.i64.wrap (((m1 : Int) + y + c1 / 2) * ((n : Int) + 1)) = (m2 : Int) := by rw [t2]; exact IntWalk.i64_in _ (by omega)
      have z3 : (m2 : Int) + x + c0 / 2 = (K : Int) := by omega
      have hKL : K < L := by rw [HL.out]; exact hKF
      have hKL' : (K : Int) < (L : Int) := by omega
      have g0 := hg1.cell 0
      have x0 := hv1.cell 0
      have x1 := hv1.cell 1
      have x2 := hv1.cell 2
      have fr := hr1.frozen k
      obtain ⟨sb, hsb⟩ := arr8_some ins k hlt
      have sc := (hr1.cell k).trans hsb
      clear hsb
      simp only [List.getElem?_toArray, List.getElem?_cons_zero, List.getElem?_cons_succ] at g0 x0 x1 x2
      have HW := hide (And.intro hB1 (And.intro hr1 (And.intro hKv (And.intro hp hcp))))
      clear hs1 hg1 hv1 hr1 hcl hm1 hm2 hKe e0 e1 e2 t1 t2 hK hKF hKv hp hcp hB1 hB'
      have q0 : w.heap.size < w1.heap.size := by omega
      have q1 : w.heap.size + 1 < w1.heap.size := by omega
      have q2 : w.heap.size + 1 + 1 < w1.heap.size := by omega
      have q3 : b < w1.heap.size := by omega
      go_wp2_with fail
      obtain ⟨Y, hY⟩ : ∃ Y, Y = (w1.setCell ⟨w.heap.size + 1 + 1, k, none⟩ (.bool (ins k))).alloc (.cells #[.int .i64 c0, .int .i64 c1, .int .i64 c2] 61) := ⟨_, rfl⟩
      rw [← hY]
      have hrY : Blk Y (w.heap.size + 1 + 1) 71 (arr8 ins (k + 1)) := by rw [hY, ← arr8_set ins hlt]; exact (HW.out.2.1.set_ _ _).alloc _
      have hBY : Below (w.heap.size + 1 + 1) V Y := by
        rw [hY]
        exact (((HR.out.2.2).trans (HW.out.1.mono (by omega))).setCell (Nat.le_refl _) _).alloc (by simp; omega) _
      have hmn := mixN_succ ins k
      rw [← HR.out.1] at hmn
      have c1 := (hrY.cell k).trans (arr8_get ins (Nat.lt_succ_self k) (by omega))
      have c0 := (hrY.cell 0).trans (arr8_get ins (Nat.succ_pos k) (by omega))
      have HN := hide (And.intro hmn (And.intro hrY hBY))
      clear hmn hrY hBY hY
      cases mx
      · go_quiet (fail)
        go_wp2
        go_roundw
        case rel => exact ⟨k + 1, by omega, by go_num, by rw [HN.out.1]; rfl, HN.out.2.1.drewN _, below_drewN HN.out.2.2 _⟩
        case measure => simp [intOf]; omega
      · go_quiet (fail)
        go_wp2
        go_roundw
        case rel => exact ⟨k + 1, by omega, by go_num, by rw [HN.out.1]; rfl, HN.out.2.1.drewN _, below_drewN HN.out.2.2 _⟩
        case measure => simp [intOf]; omega
    · have hk8 : k = 8 := by omega
      subst hk8
      rw [arr8_all] at hbr
      have HR := hide (And.intro hmx (And.intro hbr hB))
      have r0 := hbr.frozen 0
      have r1 := hbr.frozen 1
      have r2 := hbr.frozen 2
      have r3 := hbr.frozen 3
      have r4 := hbr.frozen 4
      have r5 := hbr.frozen 5
      have r6 := hbr.frozen 6
      have r7 := hbr.frozen 7
      have s0 := hbr.cell 0
      have s1 := hbr.cell 1
      have s2 := hbr.cell 2
      have s3 := hbr.cell 3
      have s4 := hbr.cell 4
      have s5 := hbr.cell 5
      have s6 := hbr.cell 6
      have s7 := hbr.cell 7
      simp only [List.getElem?_toArray, List.getElem?_cons_zero, List.getElem?_cons_succ] at s0 s1 s2 s3 s4 s5 s6 s7
      clear hmx hbr hB
      go_wp2
      refine ret_at (v := .tuple #[.agg (arr8 ins 8), .bool (mixN ins 8)]) (fun W => Blk W (w.heap.size + 1 + 1) 71 #[.bool (ins 0), .bool (ins 1), .bool (ins 2), .bool (ins 3), .bool (ins 4), .bool (ins 5), .bool (ins 6), .bool (ins 7)])
        ((((((((HR.out.2.1.set_ 0 _).set_ 1 _).set_ 2 _).set_ 3 _).set_ 4 _).set_ 5 _).set_ 6 _).set_ 7 _) (fun W h' => ?_) rfl
        ⟨rfl, HV.out.1.trans (((((((((HR.out.2.2.setCell (Nat.le_refl _) _).setCell (Nat.le_refl _) _).setCell (Nat.le_refl _) _).setCell (Nat.le_refl _) _).setCell (Nat.le_refl _) _).setCell (Nat.le_refl _) _).setCell (Nat.le_refl _) _).setCell (Nat.le_refl _) _).mono (by omega))⟩
      have a0 := h'.cell 0
      have a1 := h'.cell 1
      have a2 := h'.cell 2
      have a3 := h'.cell 3
      have a4 := h'.cell 4
      have a5 := h'.cell 5
      have a6 := h'.cell 6
      have a7 := h'.cell 7
      simp only [List.getElem?_toArray, List.getElem?_cons_zero, List.getElem?_cons_succ] at a0 a1 a2 a3 a4 a5 a6 a7
      rw [← HR.out.1, arr8_all]
      simp [results, Try.results40, go_sem, a0, a1, a2, a3, a4, a5, a6, a7]
end Go.Proofs.Ytfljcgehhnmamaa
