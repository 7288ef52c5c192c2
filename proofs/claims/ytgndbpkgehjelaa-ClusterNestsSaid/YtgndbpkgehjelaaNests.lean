/- ClusterNests: the walk. -/
import Derived.Test.YtgndbpkgehjelaaSan
import Derived.Test.YtgndbpkgehjelaaNestsLaw
import Derived.Test.YtgndbpkgehjelaaMod
namespace Go.Proofs.Ytgndbpkgehjelaa
open Go.RowKit
def remP (p : Pt) : Pt := (p.1.tmod 1125899906842624, p.2.1.tmod 1125899906842624, p.2.2.tmod 1125899906842624)
def nestN (t : Tri) : Nat → Tri
  | 0 => t
  | 1 => (remP t.1, t.2.1, t.2.2)
  | 2 => (remP t.1, remP t.2.1, t.2.2)
  | _ => (remP t.1, remP t.2.1, remP t.2.2)
theorem idxA0 (a b c d e f g h i : Value) (w : World) : (Instr.index 24 (.agg #[a, b, c, d, e, f, g, h, i]) (.int .i64 0)).run Try.prog w = .ok (.agg #[a, b, c]) w := by kernel_rfl
theorem idxA1 (a b c d e f g h i : Value) (w : World) : (Instr.index 24 (.agg #[a, b, c, d, e, f, g, h, i]) (.int .i64 1)).run Try.prog w = .ok (.agg #[d, e, f]) w := by kernel_rfl
theorem idxA2 (a b c d e f g h i : Value) (w : World) : (Instr.index 24 (.agg #[a, b, c, d, e, f, g, h, i]) (.int .i64 2)).run Try.prog w = .ok (.agg #[g, h, i]) w := by kernel_rfl
theorem fits_near {c : Int} (h : nearC 1125899906842624 c) : fits c := by
  unfold nearC at h; unfold fits; omega
theorem fitsT_near {u : Tri} (h : nearT 1125899906842624 u) : fitsT u :=
  ⟨⟨fits_near h.1.1, fits_near h.1.2.1, fits_near h.1.2.2⟩, ⟨fits_near h.2.1.1, fits_near h.2.1.2.1, fits_near h.2.1.2.2⟩, fits_near h.2.2.1, fits_near h.2.2.2.1, fits_near h.2.2.2.2⟩
theorem fits_wrap (x : Int) : fits (wrap64 x) := by unfold fits wrap64; omega
theorem fitsT_mov (v : Pt) (u : Tri) : fitsT (movT v u) := ⟨⟨fits_wrap _, fits_wrap _, fits_wrap _⟩, ⟨fits_wrap _, fits_wrap _, fits_wrap _⟩, fits_wrap _, fits_wrap _, fits_wrap _⟩
set_option maxRecDepth 100000 in
set_option maxHeartbeats 4000000 in
theorem nests_walk (t : Tri) (n : Nat) (hn : n < 256) (w : World) :
    Calls Try.prog 10 #[vT t, .int .u8 n] w fun e w' => e = .returned (.bool true) ∧ Below w.heap.size w w' := by
  go_enter Try.func10, Try.ntmps10
  go_wp2_with fail
  refine (sanity_any _).mono ?_
  rintro e w1 ⟨rfl, hB1⟩
  have hb0 : Blk w1 w.heap.size 24 (encT t).toArray := (Blk.new w 24 (encT t).toArray).below hB1 (by simp)
  have hR1 : RB w w1 := (RB.alloc w _).trans _ _ _ hB1
  have hsz : w.heap.size < w1.heap.size := hb0.lt
  have C := cells9z hb0
  have t0 := C.1
  have t1 := C.2.1
  have t2 := C.2.2.1
  have t3 := C.2.2.2.1
  have t4 := C.2.2.2.2.1
  have t5 := C.2.2.2.2.2.1
  have t6 := C.2.2.2.2.2.2.1
  have t7 := C.2.2.2.2.2.2.2.1
  have t8 := C.2.2.2.2.2.2.2.2
  clear C
  have H := hide (And.intro hb0 hR1)
  clear hb0 hR1 hB1
  go_wp2
  clear t0 t1 t2 t3 t4 t5 t6 t7 t8
  go_loopw [18] (fun i wr => ∃ j : Nat, j ≤ 3 ∧ i = .int .i64 j ∧ Blk wr w.heap.size 24 (encT (nestN t j)).toArray ∧ Below w.heap.size w wr) (fun i _ => 3 - (intOf i).toNat)
  case atStart => exact ⟨0, by omega, rfl, H.out.1, H.out.2⟩
  case round =>
    obtain ⟨j, hj, rfl, hbt, hBt⟩ := hrel
    have hlt := hbt.lt
    have hszw : w.heap.size ≤ wr.heap.size := by omega
    have hne : wr.heap.size ≠ w.heap.size := by omega
    have hne2 : w.heap.size ≠ wr.heap.size := by omega
    have hm : ∀ x : Int, wrap64 (x.tmod 1125899906842624) = x.tmod 1125899906842624 := fun x => by
      have := tmod_bound x 1125899906842624 (by omega)
      unfold wrap64; omega
    have hc : j = 0 ∨ j = 1 ∨ j = 2 ∨ j = 3 := by omega
    rcases hc with rfl | rfl | rfl | rfl
    · have hi := idxA0 (.int .i64 t.1.1) (.int .i64 t.1.2.1) (.int .i64 t.1.2.2) (.int .i64 t.2.1.1) (.int .i64 t.2.1.2.1) (.int .i64 t.2.1.2.2) (.int .i64 t.2.2.1) (.int .i64 t.2.2.2.1) (.int .i64 t.2.2.2.2) wr
      have q0 : wr.cell? ⟨w.heap.size, 0, none⟩ = some (.int .i64 t.1.1) := hbt.cell 0
      have f0 := hbt.frozen 0
      have q1 : wr.cell? ⟨w.heap.size, 1, none⟩ = some (.int .i64 t.1.2.1) := hbt.cell 1
      have f1 := hbt.frozen 1
      have q2 : wr.cell? ⟨w.heap.size, 2, none⟩ = some (.int .i64 t.1.2.2) := hbt.cell 2
      have f2 := hbt.frozen 2
      have HT := hide (And.intro hbt hBt)
      clear hbt hBt
      go_wp2
      go_roundw
      case rel =>
        refine ⟨1, by omega, rfl, ?_, ((((HT.out.2.setCell (by simp) _).setCell (by simp) _).setCell (by simp) _).alloc (by simp; omega) _)⟩
        have := ((((HT.out.1.set_ 0 (.int .i64 (Int.tmod (t.1.1) 1125899906842624))).set_ 1 (.int .i64 (Int.tmod (t.1.2.1) 1125899906842624))).set_ 2 (.int .i64 (Int.tmod (t.1.2.2) 1125899906842624))).alloc (.cells #[.int .i64 t.1.1, .int .i64 t.1.2.1, .int .i64 t.1.2.2] 23))
        exact this
      case measure => simp [intOf]
    · have hi := idxA1 (.int .i64 t.1.1) (.int .i64 t.1.2.1) (.int .i64 t.1.2.2) (.int .i64 t.2.1.1) (.int .i64 t.2.1.2.1) (.int .i64 t.2.1.2.2) (.int .i64 t.2.2.1) (.int .i64 t.2.2.2.1) (.int .i64 t.2.2.2.2) wr
      have q0 : wr.cell? ⟨w.heap.size, 3, none⟩ = some (.int .i64 t.2.1.1) := hbt.cell 3
      have f0 := hbt.frozen 3
      have q1 : wr.cell? ⟨w.heap.size, 4, none⟩ = some (.int .i64 t.2.1.2.1) := hbt.cell 4
      have f1 := hbt.frozen 4
      have q2 : wr.cell? ⟨w.heap.size, 5, none⟩ = some (.int .i64 t.2.1.2.2) := hbt.cell 5
      have f2 := hbt.frozen 5
      have HT := hide (And.intro hbt hBt)
      clear hbt hBt
      go_wp2
      go_roundw
      case rel =>
        refine ⟨2, by omega, rfl, ?_, ((((HT.out.2.setCell (by simp) _).setCell (by simp) _).setCell (by simp) _).alloc (by simp; omega) _)⟩
        have := ((((HT.out.1.set_ 3 (.int .i64 (Int.tmod (t.2.1.1) 1125899906842624))).set_ 4 (.int .i64 (Int.tmod (t.2.1.2.1) 1125899906842624))).set_ 5 (.int .i64 (Int.tmod (t.2.1.2.2) 1125899906842624))).alloc (.cells #[.int .i64 t.2.1.1, .int .i64 t.2.1.2.1, .int .i64 t.2.1.2.2] 23))
        exact this
      case measure => simp [intOf]
    · have hi := idxA2 (.int .i64 t.1.1) (.int .i64 t.1.2.1) (.int .i64 t.1.2.2) (.int .i64 t.2.1.1) (.int .i64 t.2.1.2.1) (.int .i64 t.2.1.2.2) (.int .i64 t.2.2.1) (.int .i64 t.2.2.2.1) (.int .i64 t.2.2.2.2) wr
      have q0 : wr.cell? ⟨w.heap.size, 6, none⟩ = some (.int .i64 t.2.2.1) := hbt.cell 6
      have f0 := hbt.frozen 6
      have q1 : wr.cell? ⟨w.heap.size, 7, none⟩ = some (.int .i64 t.2.2.2.1) := hbt.cell 7
      have f1 := hbt.frozen 7
      have q2 : wr.cell? ⟨w.heap.size, 8, none⟩ = some (.int .i64 t.2.2.2.2) := hbt.cell 8
      have f2 := hbt.frozen 8
      have HT := hide (And.intro hbt hBt)
      clear hbt hBt
      go_wp2
      go_roundw
      case rel =>
        refine ⟨3, by omega, rfl, ?_, ((((HT.out.2.setCell (by simp) _).setCell (by simp) _).setCell (by simp) _).alloc (by simp; omega) _)⟩
        have := ((((HT.out.1.set_ 6 (.int .i64 (Int.tmod (t.2.2.1) 1125899906842624))).set_ 7 (.int .i64 (Int.tmod (t.2.2.2.1) 1125899906842624))).set_ 8 (.int .i64 (Int.tmod (t.2.2.2.2) 1125899906842624))).alloc (.cells #[.int .i64 t.2.2.1, .int .i64 t.2.2.2.1, .int .i64 t.2.2.2.2] 23))
        exact this
      case measure => simp [intOf]
    · obtain ⟨u, hu⟩ : ∃ u, u = nestN t 3 := ⟨_, rfl⟩
      rw [← hu] at hbt
      have hnear : nearT 1125899906842624 u := by
        rw [hu]
        have hb := fun x : Int => tmod_bound x 1125899906842624 (by omega)
        exact ⟨⟨hb _, hb _, hb _⟩, ⟨hb _, hb _, hb _⟩, hb _, hb _, hb _⟩
      have hfu : fitsT u := fitsT_near hnear
      have hcast : ((n % 40 : Nat) : Int) = (n : Int) % 40 := by omega
      obtain ⟨law1, law2, law3⟩ := nests_laws u (n % 40) (by omega) hnear
      have hcast1 : ((n % 40 + 1 : Nat) : Int) = (n : Int) % 40 + 1 := by omega
      rw [hcast1, hcast] at law1
      rw [hcast] at law2
      have hp40 : (2 : Int) ^ (n % 40) ≤ 2 ^ 39 := by
        have : (2 : Nat) ^ (n % 40) ≤ 2 ^ 39 := Nat.pow_le_pow_right (by omega) (by omega)
        exact_mod_cast this
      have hp0 : (0 : Int) < 2 ^ (n % 40) := Int.pow_pos (by omega)
      have hpw : wrap64 (2 ^ (n % 40)) = 2 ^ (n % 40) := by unfold wrap64; omega
      have hpd : wrap64 (Int.tdiv (2 ^ (n % 40)) 2) = 2 ^ (n % 40) / 2 := by
        rw [Int.tdiv_eq_ediv_of_nonneg (by omega)]
        unfold wrap64; omega
      have hadd : wrap64 ((n : Int) % 40 + 1) = (n : Int) % 40 + 1 := by unfold wrap64; omega
      have C := cells9z hbt
      have t0 := C.1
      have t1 := C.2.1
      have t2 := C.2.2.1
      have t3 := C.2.2.2.1
      have t4 := C.2.2.2.2.1
      have t5 := C.2.2.2.2.2.1
      have t6 := C.2.2.2.2.2.2.1
      have t7 := C.2.2.2.2.2.2.2.1
      have t8 := C.2.2.2.2.2.2.2.2
      clear C
      obtain ⟨W, hW⟩ : ∃ W, W = wr.alloc (.cells #[.int .i64 u.1.1, .int .i64 u.1.2.1, .int .i64 u.1.2.2, .int .i64 u.2.1.1, .int .i64 u.2.1.2.1, .int .i64 u.2.1.2.2, .int .i64 u.2.2.1, .int .i64 u.2.2.2.1, .int .i64 u.2.2.2.2] 26) := ⟨_, rfl⟩
      have hbW : Blk W wr.heap.size 26 (encT u).toArray := by rw [hW]; exact Blk.new _ _ _
      have hBW : Below w.heap.size w W := by rw [hW]; exact hBt.alloc (by omega) _
      have HT := hide (And.intro hbW (And.intro hBW (And.intro law1 (And.intro law2 (And.intro law3 (And.intro hfu (And.intro hp40 hp0)))))))
      clear hbt hBt hbW hBW law1 law2 law3 hfu hp40 hp0 hnear hu hcast hcast1
      have HWe := hide hW
      clear hW
      go_wp2_with fail
      rw [← HWe.out]
      have hf1 : ∀ s ∈ [u], fitsT s := by
        intro s hs
        rw [List.mem_singleton] at hs
        rw [hs]; exact HT.out.2.2.2.2.2.1
      have hfX : fitsP (blockP [u] ((n : Int) % 40) false) := fitsP_block hf1 _ _
      have HF := hide (And.intro hf1 hfX)
      clear hf1 hfX
      refine (Block_any _ 1 [u] _ false W (Sl.ofBlk encT_len HT.out.1 rfl) (by simp [maxLen]) (fitsP_anc HF.out.1)).mono ?_
      rintro e w2 ⟨rfl, hB2⟩
      have hb2 := HT.out.1.below hB2 HT.out.1.lt
      have H2 := hide (And.intro hB2 hb2)
      clear hB2 hb2
      go_wp2_with fail
      refine (Block_any _ 1 [u] _ false w2 (Sl.ofBlk encT_len H2.out.2 rfl) (by simp [maxLen]) (fitsP_anc HF.out.1)).mono ?_
      rintro e w3 ⟨rfl, hB3⟩
      rw [HT.out.2.2.1]
      have hb3 := H2.out.2.below hB3 H2.out.2.lt
      have H3 := hide (And.intro hB3 hb3)
      clear hB3 hb3
      obtain ⟨X, hX⟩ : ∃ X, X = blockP [u] ((n : Int) % 40) false := ⟨_, rfl⟩
      rw [← hX]
      have hfX : fitsP X := by rw [hX]; exact HF.out.2
      have hfX2 : fitsP (X.1 / 2, X.2.1 / 2, X.2.2 / 2) := by
        obtain ⟨⟨a1, a2⟩, ⟨b1, b2⟩, c1, c2⟩ := hfX
        refine ⟨⟨?_, ?_⟩, ⟨?_, ?_⟩, ?_, ?_⟩ <;> (simp only; omega)
      have hq : ∀ V, (Op.equalIn 10000 23 (vP (X.1 / 2, X.2.1 / 2, X.2.2 / 2)) (vP (X.1 / 2, X.2.1 / 2, X.2.2 / 2))).run Try.prog V = .ok true V := fun V => by
        rw [eqP _ _ hfX2 hfX2]; simp
      have HX := hide (And.intro hX (And.intro hfX hfX2))
      clear hX hfX hfX2
      have hneA : w3.heap.size + 1 ≠ w3.heap.size := by omega
      go_wp2_with fail
      obtain ⟨W4, hW4⟩ : ∃ W4, W4 = (w3.alloc (.cells #[.int .i64 X.1, .int .i64 X.2.1, .int .i64 X.2.2] 23)).alloc (.cells #[.int .i64 (X.1 / 2), .int .i64 (X.2.1 / 2), .int .i64 (X.2.2 / 2)] 23) := ⟨_, rfl⟩
      rw [← hW4]
      have hb4 : Blk W4 wr.heap.size 26 (encT u).toArray := by rw [hW4]; exact (H3.out.2.alloc _).alloc _
      have hB4 : RB w3 W4 := by rw [hW4]; exact (RB.alloc _ _).trans _ _ _ (RB.alloc _ _)
      have H4 := hide (And.intro hB4 hb4)
      clear hB4 hb4 hW4 hq hneA
      refine (Block_any _ 1 [u] _ true W4 (Sl.ofBlk encT_len H4.out.2 rfl) (by simp [maxLen]) (fitsP_anc HF.out.1)).mono ?_
      rintro e w5 ⟨rfl, hB5⟩
      have hb5 := H4.out.2.below hB5 H4.out.2.lt
      have H5 := hide (And.intro hB5 hb5)
      clear hB5 hb5
      obtain ⟨Z, hZ⟩ : ∃ Z, Z = blockP [u] ((n : Int) % 40) true := ⟨_, rfl⟩
      rw [← hZ]
      have hfZ : fitsP Z := by rw [hZ]; exact fitsP_block HF.out.1 _ _
      have hq : ∀ V, (Op.equalIn 10000 23 (vP Z) (vP Z)).run Try.prog V = .ok true V := fun V => by
        rw [eqP _ _ hfZ hfZ]; simp
      have HZ := hide (And.intro hZ hfZ)
      clear hZ hfZ
      go_wp2_with fail
      refine (moved_any _ 1 [u] (2 ^ (n % 40) / 2, 2 ^ (n % 40) / 2, 2 ^ (n % 40) / 2) w5 (Sl.ofBlk encT_len H5.out.2 rfl) (by simp)).mono ?_
      rintro e w6 ⟨m, rfl, hown, hB6⟩
      obtain ⟨A6, c6, rfl⟩ := hown.form
      have hb6 := H5.out.2.below hB6 H5.out.2.lt
      have hs6 := hown.sl encT_len (Nat.le_refl _)
      have H6 := hide (And.intro hB6 (And.intro hb6 hs6))
      clear hB6 hb6 hs6 hown
      go_wp2_with fail
      refine (Block_any A6 c6 [movT (2 ^ (n % 40) / 2, 2 ^ (n % 40) / 2, 2 ^ (n % 40) / 2) u] _ false w6 H6.out.2.2 (by simp [maxLen]) (fitsP_anc (by
        intro s hs
        rw [List.mem_singleton] at hs
        rw [hs]; exact fitsT_mov _ _))).mono ?_
      rintro e w7 ⟨rfl, hB7⟩
      rw [← HT.out.2.2.2.1, ← HZ.out.1]
      have hb7 := H6.out.2.1.below hB7 H6.out.2.1.lt
      have H7 := hide (And.intro hB7 hb7)
      clear hB7 hb7
      go_wp2_with fail
      refine (Block_any _ 1 [u] 0 true w7 (Sl.ofBlk encT_len H7.out.2 rfl) (by simp [maxLen]) (fitsP_anc HF.out.1)).mono ?_
      rintro e w8 ⟨rfl, hB8⟩
      rw [HT.out.2.2.2.2.1]
      have hb8 := H7.out.2.below hB8 H7.out.2.lt
      have H8 := hide (And.intro hB8 hb8)
      clear hB8 hb8 hq
      go_wp2_with fail
      refine (Block_any _ 1 [u] 0 false w8 (Sl.ofBlk encT_len H8.out.2 rfl) (by simp [maxLen]) (fitsP_anc HF.out.1)).mono ?_
      rintro e w9 ⟨rfl, hB9⟩
      have hf0 : fitsP (blockP [u] 0 false) := fitsP_block HF.out.1 _ _
      have hq : ∀ V, (Op.equalIn 10000 23 (vP (blockP [u] 0 false)) (vP (blockP [u] 0 false))).run Try.prog V = .ok true V := fun V => by
        rw [eqP _ _ hf0 hf0]; simp
      have H9 := hide hB9
      clear hB9 hf0
      go_wp2
      go_ret
      have r2 : RB W w3 := RB.trans _ _ _ H2.out.1 H3.out.1
      have r4 : RB W w5 := (r2.trans _ _ _ H4.out.1).trans _ _ _ H5.out.1
      have r7 : RB W w7 := (r4.trans _ _ _ H6.out.1).trans _ _ _ H7.out.1
      have r9 : RB W w9 := (r7.trans _ _ _ H8.out.1).trans _ _ _ H9.out
      exact ⟨rfl, (RB.trans w W w9 HT.out.2.1 r9)⟩
end Go.Proofs.Ytgndbpkgehjelaa
