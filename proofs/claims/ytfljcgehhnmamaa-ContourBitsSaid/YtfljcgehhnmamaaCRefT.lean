/- ref08.triangles (printed by mk_RefT.py). -/
import Derived.Deep.WholeRow
import Derived.Great.BuildSlice
import Derived.Great.Walk
import Derived.Test.YtfljcgehhnmamaaCB29
import Derived.Test.YtfljcgehhnmamaaCB37
import Derived.Test.YtfljcgehhnmamaaCRefF1
import Derived.Test.YtfljcgehhnmamaaCRefF2
import Derived.Test.YtfljcgehhnmamaaCRefN
namespace Go.Proofs.Ytfljcgehhnmamaa
open Go.RowKit Go.Sort
theorem faceR_any {a : Nat} (ha : a < 3) (bj : Nat) (ins : Nat → Bool) (ms : List (Nat × Nat)) (pos : Bool) (w : World) (hb : Blk w bj 91 (cellL ins ms).toArray) :
    Calls Try.prog 48 #[.pointer (some ⟨bj, 0, none⟩), .int .i64 a, .bool pos] w fun e w' => e = .returned (.tuple #[]) ∧ Blk w' bj 91 (cellL ins (ms ++ faceE ins a pos)).toArray ∧ w.grownBy w' (some bj) := by
  rcases ax3 ha with rfl | rfl | rfl
  · exact faceR_0 bj ins ms pos w hb
  · exact faceR_1 bj ins ms pos w hb
  · exact faceR_2 bj ins ms pos w hb
theorem cell2_end (ins : Nat → Bool) : cell2 ins 24 = cellL ins [] := by
  unfold cell2 cellL
  exact congrArg _ (List.map_congr_left fun x hx => by rw [if_pos (List.mem_range.1 hx)]; rfl)
theorem ins_idx (F : List Bool) (l n x y z v : Nat) (hn : n = 2 ^ l) : insF F (n + 1) x y z v = F.getD (idxP l (x + v % 2) (y + v / 2 % 2) (z + v / 4 % 2)) false := by
  unfold insF vtx idxP
  rw [hn]
  simp only [Nat.add_assoc]
theorem idx_lt8 {l n x y z : Nat} (hn : n = 2 ^ l) (hx : x ≤ n) (hy : y ≤ n) (hz : z ≤ n) : idxP l x y z < (n + 1) * (n + 1) * (n + 1) := by
  unfold idxP
  rw [← hn]
  have h1 : z * (n + 1) + y < (n + 1) * (n + 1) := by
    have : (z + 1) * (n + 1) ≤ (n + 1) * (n + 1) := Nat.mul_le_mul_right _ (by omega)
    rw [Nat.succ_mul] at this
    omega
  have h2 : (z * (n + 1) + y + 1) * (n + 1) ≤ (n + 1) * (n + 1) * (n + 1) := Nat.mul_le_mul_right _ h1
  rw [Nat.succ_mul] at h2
  omega
theorem built24 : Try.prog.built 94 [] = some #[.bool false, .bool false, .bool false, .bool false, .bool false, .bool false, .bool false, .bool false, .bool false, .bool false, .bool false, .bool false, .bool false, .bool false, .bool false, .bool false, .bool false, .bool false, .bool false, .bool false, .bool false, .bool false, .bool false, .bool false] := by kernel_rfl
theorem grown_set9 (W : World) (b i : Nat) (v : Value) : W.grownBy (W.setCell ⟨b, i, none⟩ v) (some b) := ⟨rfl, rfl, rfl, (KeepsWalks.setCell W _ _).size, fun k _ hne => Below.heap_setCell W ⟨b, i, none⟩ _ k (fun e => hne (by rw [e]))⟩
theorem cell2_get (ins : Nat → Bool) {e : Nat} (he : e < 24) : (cell2 ins e)[8 + e]? = some (.int .i64 0) := by
  unfold cell2
  rw [List.getElem?_append_right (by simp), List.length_map, List.length_range, Nat.add_sub_cancel_left, List.getElem?_map, List.getElem?_range he]
  simp
set_option maxRecDepth 100000 in
set_option maxHeartbeats 32000000 in
theorem tris_any (F : List Bool) (A : Option Addr) (cap l n x y z : Nat) (h : Int) (w : World) (hs : Sl encBl 1 w w.heap.size A F) (hl1 : 1 ≤ l) (hl3 : l ≤ 3) (hn : n = 2 ^ l) (hx : x < n) (hy : y < n) (hz : z < n) (hF : F.length = (n + 1) * (n + 1) * (n + 1)) (hh : h = ((2 ^ (21 - l) : Nat) : Int)) (hc : cellOk ((x : Int), (y : Int), (z : Int)) h)
    (L : List Bool) (hL : L = (List.range 8).map (insF F (n + 1) x y z)) :
    Calls Try.prog 31 #[.agg #[.int .i64 l, .slice A F.length cap], .agg #[.int .i64 x, .int .i64 y, .int .i64 z]] w fun e w' => ∃ v, e = .returned v ∧ Own encT 9 40 w' w.heap.size v (cellTs L ((x : Int), (y : Int), (z : Int)) h).length (cellTs L ((x : Int), (y : Int), (z : Int)) h) ∧ Below w.heap.size w w' := by
  have hn8 : n ≤ 8 := by have : l = 1 ∨ l = 2 ∨ l = 3 := by omega
                         rcases this with rfl | rfl | rfl <;> omega
  obtain ⟨b, o, rfl, hbw, _⟩ := hs.at (encBl_get (F := F) (i := 0) (by rw [hF]; exact Nat.mul_pos (Nat.mul_pos (by omega) (by omega)) (by omega)))
  obtain ⟨ins, hins⟩ : ∃ ins, ins = insL L := ⟨_, rfl⟩
  have hiv : ∀ v, v < 8 → ins v = F.getD (idxP l (x + v % 2) (y + v / 2 % 2) (z + v / 4 % 2)) false := fun v hv => by
    rw [← ins_idx F l n x y z v hn, hins, hL]
    have hc : v = 0 ∨ v = 1 ∨ v = 2 ∨ v = 3 ∨ v = 4 ∨ v = 5 ∨ v = 6 ∨ v = 7 := by omega
    rcases hc with rfl | rfl | rfl | rfl | rfl | rfl | rfl | rfl <;> rfl
  have hKl : ∀ v, v < 8 → idxP l (x + v % 2) (y + v / 2 % 2) (z + v / 4 % 2) < F.length := fun v hv => by
    rw [hF]
    exact idx_lt8 hn (by omega) (by omega) (by omega)
  obtain ⟨T, hT⟩ : ∃ T, T = cellTs L ((x : Int), (y : Int), (z : Int)) h := ⟨_, rfl⟩
  have hTe : T = trisE ((x : Int), (y : Int), (z : Int)) h (cycE (nxE (allE ins)) (List.range 24) []) := by rw [hT, hins, trisE_cells]
  rw [← hT]
  obtain ⟨N, hN⟩ : ∃ N, N = F.length := ⟨_, rfl⟩
  rw [← hN]
  have HS := hide (And.intro hs (And.intro hiv (And.intro hKl (And.intro hTe (And.intro hN (And.intro hh hc))))))
  have hc3 : l = 1 ∨ l = 2 ∨ l = 3 := by omega
  have HL := hide (And.intro hl1 (And.intro hl3 hc3))
  clear hs hiv hKl hTe hT hN hh hc hins hL hn hF hl1 hl3 hc3
  go_enter Try.func31, Try.ntmps31
  go_upto_region 2 with fail
  obtain ⟨V, hV⟩ : ∃ V, V = ((w.alloc (.cells #[.int .i64 l, .slice (some ⟨b, o, none⟩) N cap] 26)).alloc (.cells #[.int .i64 x, .int .i64 y, .int .i64 z] 51)).alloc (.cells #[.bool false, .bool false, .bool false, .bool false, .bool false, .bool false, .bool false, .bool false, .int .i64 0, .int .i64 0, .int .i64 0, .int .i64 0, .int .i64 0, .int .i64 0, .int .i64 0, .int .i64 0, .int .i64 0, .int .i64 0, .int .i64 0, .int .i64 0, .int .i64 0, .int .i64 0, .int .i64 0, .int .i64 0, .int .i64 0, .int .i64 0, .int .i64 0, .int .i64 0, .int .i64 0, .int .i64 0, .int .i64 0, .int .i64 0] 91) := ⟨_, rfl⟩
  rw [← hV]
  have hBV : Below w.heap.size w V := by rw [hV]; exact (((Below.refl _ w).alloc (Nat.le_refl _) _).alloc (by simp) _).alloc (by simp; omega) _
  have hf : Blk V w.heap.size 26 #[.int .i64 l, .slice (some ⟨b, o, none⟩) N cap] := by rw [hV]; exact ((Blk.new _ _ _).alloc _).alloc _
  have hk : Blk V (w.heap.size + 1) 51 #[.int .i64 x, .int .i64 y, .int .i64 z] := by rw [hV]; exact (Blk.new' _ _ _ _ (by simp)).alloc _
  have hcb : Blk V (w.heap.size + 1 + 1) 91 (cell1 ins 0).toArray := by
    rw [hV, show (cell1 ins 0).toArray = #[.bool false, .bool false, .bool false, .bool false, .bool false, .bool false, .bool false, .bool false, .int .i64 0, .int .i64 0, .int .i64 0, .int .i64 0, .int .i64 0, .int .i64 0, .int .i64 0, .int .i64 0, .int .i64 0, .int .i64 0, .int .i64 0, .int .i64 0, .int .i64 0, .int .i64 0, .int .i64 0, .int .i64 0, .int .i64 0, .int .i64 0, .int .i64 0, .int .i64 0, .int .i64 0, .int .i64 0, .int .i64 0, .int .i64 0] from rfl]
    exact Blk.new' _ _ _ _ (by simp)
  have hzV : V.heap.size = w.heap.size + 3 := by rw [hV]; simp
  obtain ⟨bc, hbc⟩ : ∃ bc, bc = w.heap.size + 1 + 1 := ⟨_, rfl⟩
  obtain ⟨bk, hbk⟩ : ∃ bk, bk = w.heap.size + 1 := ⟨_, rfl⟩
  obtain ⟨bf, hbf⟩ : ∃ bf, bf = w.heap.size := ⟨_, rfl⟩
  rw [← hbc] at hcb ⊢
  rw [← hbk] at hk ⊢
  rw [← hbf] at hf ⊢
  have HV := hide (And.intro hBV (And.intro hf (And.intro hk hcb)))
  have HBB := hide (And.intro hbc (And.intro hbk (And.intro hbf hzV)))
  clear hBV hf hk hcb hV hbc hbk hbf hzV
  go_wp2
  go_loopw [6] (fun iv wr => ∃ v : Nat, v ≤ 8 ∧ iv = .int .i64 v ∧ Blk wr bc 91 (cell1 ins v).toArray ∧ Below bc V wr) (fun iv _ => 8 - (intOf iv).toNat)
  case atStart => exact ⟨0, by omega, rfl, HV.out.2.2.2, Below.refl _ V⟩
  case round =>
    obtain ⟨v, hv, rfl, hb, hB⟩ := hrel
    obtain ⟨R, rfl⟩ : ∃ R, R = wr := ⟨_, rfl⟩
    by_cases hlt : v < 8
    · have HR := hide (And.intro hb hB)
      clear hb hB
      have i1 : (v : Int) < 8 := by omega
      go_upto_region 5 with fail
      obtain ⟨u, hu⟩ : ∃ u, u = v := ⟨_, rfl⟩
      have hcs : v = 0 ∨ v = 1 ∨ v = 2 ∨ v = 3 ∨ v = 4 ∨ v = 5 ∨ v = 6 ∨ v = 7 := by omega
      have hfR := HV.out.2.1.below HR.out.2 (by have := HBB.out; omega)
      have hkR := HV.out.2.2.1.below HR.out.2 (by have := HBB.out; omega)
      have hBR : Below w.heap.size w R := HV.out.1.trans (HR.out.2.mono (by have := HBB.out; omega))
      obtain ⟨k0, k1, k2⟩ := hkR.three
      have f0 := hfR.cell 0
      have f1 := hfR.cell 1
      simp only [List.getElem?_toArray, List.getElem?_cons_zero, List.getElem?_cons_succ] at f0 f1
      have hKl := HS.out.2.2.1 v hlt
      have hKv := HS.out.2.1 v hlt
      have hcb : R.cell? ⟨bc, v, none⟩ = some (.bool false) := by
        rw [HR.out.1.cell, List.getElem?_toArray]
        rcases hcs with rfl | rfl | rfl | rfl | rfl | rfl | rfl | rfl <;> rfl
      have hfz := HR.out.1.frozen v
      obtain ⟨K, hK⟩ : ∃ K, K = idxP l (x + v % 2) (y + v / 2 % 2) (z + v / 4 % 2) := ⟨_, rfl⟩
      rw [← hK] at hKl hKv
      obtain ⟨b', o', hbo, _, hcl⟩ := (HS.out.1.below hBR).at (encBl_get hKl)
      cases hbo
      have hcK := hcl 0 _ rfl
      rw [← hKv] at hcK
      simp only [Nat.mul_one, Nat.add_zero] at hcK
      have hix : ∀ W, Calls Try.prog 17 #[.int .i64 l, .int .i64 (x + v % 2 : Nat), .int .i64 (y + v / 2 % 2 : Nat), .int .i64 (z + v / 4 % 2 : Nat)] W fun e w' => e = .returned (.int .i64 K) ∧ w' = W := fun W => by
        rw [hK]
        exact index_any l _ _ _ HL.out.1 HL.out.2.1 (by omega) (by omega) (by omega) W
      obtain ⟨bb, hbb⟩ : ∃ bb, bb = ins v := ⟨_, rfl⟩
      rw [← hbb] at hcK
      have iK : (K : Int) < (N : Int) := by rw [HS.out.2.2.2.2.1]; omega
      have sx0 : IntKind.i64.wrap (x : Int) = (x : Int) := IntWalk.i64_in _ (by omega)
      have sy0 : IntKind.i64.wrap (y : Int) = (y : Int) := IntWalk.i64_in _ (by omega)
      have sz0 : IntKind.i64.wrap (z : Int) = (z : Int) := IntWalk.i64_in _ (by omega)
      have sx : IntKind.i64.wrap ((x : Int) + 1) = (x : Int) + 1 := IntWalk.i64_in _ (by omega)
      have sy : IntKind.i64.wrap ((y : Int) + 1) = (y : Int) + 1 := IntWalk.i64_in _ (by omega)
      have sz : IntKind.i64.wrap ((z : Int) + 1) = (z : Int) + 1 := IntWalk.i64_in _ (by omega)
      have hset : Blk (R.setCell ⟨bc, v, none⟩ (.bool bb)).drew bc 91 (cell1 ins (v + 1)).toArray ∧ Below bc V (R.setCell ⟨bc, v, none⟩ (.bool bb)).drew := by
        refine ⟨?_, (HR.out.2.setCell (Nat.le_refl _) _).drew⟩
        have h1 := (HR.out.1.set_ v (.bool bb)).drew
        rw [show ((cell1 ins v).toArray.setIfInBounds v (.bool bb)) = ((cell1 ins v).set v (.bool bb)).toArray by simp, hbb, cell1_set ins hlt, ← hbb] at h1
        exact h1
      have HI := hide hix
      have HT := hide hset
      clear hfR hkR hBR hKl hKv hK hcl hix hbb hset
      rcases hcs with rfl | rfl | rfl | rfl | rfl | rfl | rfl | rfl
      · have q1 : bits BinOp.and IntKind.i64 0 1 = 0 := by kernel_rfl
        have q2 : bits BinOp.and IntKind.i64 0 1 = 0 := by kernel_rfl
        have hix : ∀ W, Calls Try.prog 17 #[.int .i64 l, .int .i64 (x : Int), .int .i64 (y : Int), .int .i64 (z : Int)] W fun e w' => e = .returned (.int .i64 K) ∧ w' = W := HI.out
        have HI := hide hix
        clear hix
        go_still_tail 27, (by kernel_rfl)
        still_call (HI.out _)
        repeat still_step
        refine wpStill_nil ?_
        change wpList _ _ _ _ _ R.drew
        go_wp2
        go_roundw
        case rel => exact ⟨1, by omega, by go_num, HT.out⟩
        case measure => simp [intOf]
      · have q1 : bits BinOp.and IntKind.i64 1 1 = 1 := by kernel_rfl
        have q2 : bits BinOp.and IntKind.i64 0 1 = 0 := by kernel_rfl
        have hix : ∀ W, Calls Try.prog 17 #[.int .i64 l, .int .i64 ((x : Int) + 1), .int .i64 (y : Int), .int .i64 (z : Int)] W fun e w' => e = .returned (.int .i64 K) ∧ w' = W := HI.out
        have HI := hide hix
        clear hix
        go_still_tail 27, (by kernel_rfl)
        still_call (HI.out _)
        repeat still_step
        refine wpStill_nil ?_
        change wpList _ _ _ _ _ R.drew
        go_wp2
        go_roundw
        case rel => exact ⟨2, by omega, by go_num, HT.out⟩
        case measure => simp [intOf]
      · have q1 : bits BinOp.and IntKind.i64 2 1 = 0 := by kernel_rfl
        have q2 : bits BinOp.and IntKind.i64 1 1 = 1 := by kernel_rfl
        have hix : ∀ W, Calls Try.prog 17 #[.int .i64 l, .int .i64 (x : Int), .int .i64 ((y : Int) + 1), .int .i64 (z : Int)] W fun e w' => e = .returned (.int .i64 K) ∧ w' = W := HI.out
        have HI := hide hix
        clear hix
        go_still_tail 27, (by kernel_rfl)
        still_call (HI.out _)
        repeat still_step
        refine wpStill_nil ?_
        change wpList _ _ _ _ _ R.drew
        go_wp2
        go_roundw
        case rel => exact ⟨3, by omega, by go_num, HT.out⟩
        case measure => simp [intOf]
      · have q1 : bits BinOp.and IntKind.i64 3 1 = 1 := by kernel_rfl
        have q2 : bits BinOp.and IntKind.i64 1 1 = 1 := by kernel_rfl
        have hix : ∀ W, Calls Try.prog 17 #[.int .i64 l, .int .i64 ((x : Int) + 1), .int .i64 ((y : Int) + 1), .int .i64 (z : Int)] W fun e w' => e = .returned (.int .i64 K) ∧ w' = W := HI.out
        have HI := hide hix
        clear hix
        go_still_tail 27, (by kernel_rfl)
        still_call (HI.out _)
        repeat still_step
        refine wpStill_nil ?_
        change wpList _ _ _ _ _ R.drew
        go_wp2
        go_roundw
        case rel => exact ⟨4, by omega, by go_num, HT.out⟩
        case measure => simp [intOf]
      · have q1 : bits BinOp.and IntKind.i64 4 1 = 0 := by kernel_rfl
        have q2 : bits BinOp.and IntKind.i64 2 1 = 0 := by kernel_rfl
        have hix : ∀ W, Calls Try.prog 17 #[.int .i64 l, .int .i64 (x : Int), .int .i64 (y : Int), .int .i64 ((z : Int) + 1)] W fun e w' => e = .returned (.int .i64 K) ∧ w' = W := HI.out
        have HI := hide hix
        clear hix
        go_still_tail 27, (by kernel_rfl)
        still_call (HI.out _)
        repeat still_step
        refine wpStill_nil ?_
        change wpList _ _ _ _ _ R.drew
        go_wp2
        go_roundw
        case rel => exact ⟨5, by omega, by go_num, HT.out⟩
        case measure => simp [intOf]
      · have q1 : bits BinOp.and IntKind.i64 5 1 = 1 := by kernel_rfl
        have q2 : bits BinOp.and IntKind.i64 2 1 = 0 := by kernel_rfl
        have hix : ∀ W, Calls Try.prog 17 #[.int .i64 l, .int .i64 ((x : Int) + 1), .int .i64 (y : Int), .int .i64 ((z : Int) + 1)] W fun e w' => e = .returned (.int .i64 K) ∧ w' = W := HI.out
        have HI := hide hix
        clear hix
        go_still_tail 27, (by kernel_rfl)
        still_call (HI.out _)
        repeat still_step
        refine wpStill_nil ?_
        change wpList _ _ _ _ _ R.drew
        go_wp2
        go_roundw
        case rel => exact ⟨6, by omega, by go_num, HT.out⟩
        case measure => simp [intOf]
      · have q1 : bits BinOp.and IntKind.i64 6 1 = 0 := by kernel_rfl
        have q2 : bits BinOp.and IntKind.i64 3 1 = 1 := by kernel_rfl
        have hix : ∀ W, Calls Try.prog 17 #[.int .i64 l, .int .i64 (x : Int), .int .i64 ((y : Int) + 1), .int .i64 ((z : Int) + 1)] W fun e w' => e = .returned (.int .i64 K) ∧ w' = W := HI.out
        have HI := hide hix
        clear hix
        go_still_tail 27, (by kernel_rfl)
        still_call (HI.out _)
        repeat still_step
        refine wpStill_nil ?_
        change wpList _ _ _ _ _ R.drew
        go_wp2
        go_roundw
        case rel => exact ⟨7, by omega, by go_num, HT.out⟩
        case measure => simp [intOf]
      · have q1 : bits BinOp.and IntKind.i64 7 1 = 1 := by kernel_rfl
        have q2 : bits BinOp.and IntKind.i64 3 1 = 1 := by kernel_rfl
        have hix : ∀ W, Calls Try.prog 17 #[.int .i64 l, .int .i64 ((x : Int) + 1), .int .i64 ((y : Int) + 1), .int .i64 ((z : Int) + 1)] W fun e w' => e = .returned (.int .i64 K) ∧ w' = W := HI.out
        have HI := hide hix
        clear hix
        go_still_tail 27, (by kernel_rfl)
        still_call (HI.out _)
        repeat still_step
        refine wpStill_nil ?_
        change wpList _ _ _ _ _ R.drew
        go_wp2
        go_roundw
        case rel => exact ⟨8, by omega, by go_num, HT.out⟩
        case measure => simp [intOf]
    · obtain rfl : v = 8 := by omega
      rw [cell1_end] at hb
      have HR := hide (And.intro hb hB)
      clear hb hB
      go_wp2
      rw [show ((8 : Nat) : Int) = 8 from rfl]
      go_loopw [7] (fun iv wr => ∃ e : Nat, e ≤ 24 ∧ iv = .int .i64 e ∧ Blk wr bc 91 (cell2 ins e).toArray ∧ Below bc R wr) (fun iv _ => 24 - (intOf iv).toNat)
      case atStart => exact ⟨0, by omega, rfl, HR.out.1, Below.refl _ R⟩
      case round =>
        obtain ⟨e, he, rfl, hb, hB⟩ := hrel
        obtain ⟨R2, rfl⟩ : ∃ R, R = wr := ⟨_, rfl⟩
        by_cases hlt2 : e < 24
        · have c1 : R2.cell? ⟨bc, 8 + e, none⟩ = some (.int .i64 0) := by rw [hb.cell, List.getElem?_toArray]; exact cell2_get ins hlt2
          have f1 := hb.frozen (8 + e)
          have i1 : (e : Int) < 24 := by omega
          have hset : Blk (R2.setCell ⟨bc, 8 + e, none⟩ (.int .i64 (-1 : Int))) bc 91 (cell2 ins (e + 1)).toArray ∧ Below bc R (R2.setCell ⟨bc, 8 + e, none⟩ (.int .i64 (-1 : Int))) := by
            refine ⟨?_, hB.setCell (Nat.le_refl _) _⟩
            have h1 := hb.set_ (8 + e) (.int .i64 (-1 : Int))
            rw [show ((cell2 ins e).toArray.setIfInBounds (8 + e) (.int .i64 (-1 : Int))) = ((cell2 ins e).set (8 + e) (.int .i64 (-1 : Int))).toArray by simp, cell2_set ins hlt2] at h1
            exact h1
          have HT := hide hset
          clear hset hb hB
          go_wp2
          go_roundw
          case rel => exact ⟨e + 1, by omega, by go_num, HT.out⟩
          case measure => simp [intOf]; omega
        · obtain rfl : e = 24 := by omega
          rw [cell2_end] at hb
          have HR2 := hide (And.intro hb hB)
          clear hb hB
          go_wp2
          rw [show ((24 : Nat) : Int) = 24 from rfl]
          go_loopw [8] (fun iv wr => ∃ a : Nat, a ≤ 3 ∧ iv = .int .i64 a ∧ Blk wr bc 91 (cellL ins (facesE ins a)).toArray ∧ R2.grownBy wr (some bc)) (fun iv _ => 3 - (intOf iv).toNat)
          case atStart => exact ⟨0, by omega, rfl, HR2.out.1, World.grownBy.refl _ _⟩
          case round =>
            obtain ⟨a, ha, rfl, hb, hg⟩ := hrel
            obtain ⟨R3, rfl⟩ : ∃ R, R = wr := ⟨_, rfl⟩
            by_cases hlt3 : a < 3
            · have HR3 := hide (And.intro hb hg)
              have hfe : facesE ins (a + 1) = facesE ins a ++ faceE ins a false ++ faceE ins a true := by rw [List.append_assoc]; rfl
              have HF := hide hfe
              have i1 : (a : Int) < 3 := by omega
              clear hb hg hfe
              go_wp2_with fail
              with_reducible refine (faceR_any hlt3 bc ins _ false _ HR3.out.1).mono ?_
              rintro e w4 ⟨rfl, hb4, hg4⟩
              have H4 := hide (And.intro hb4 hg4)
              clear hb4 hg4
              go_wp2_with fail
              with_reducible refine (faceR_any hlt3 bc ins _ true _ H4.out.1).mono ?_
              rintro e w5 ⟨rfl, hb5, hg5⟩
              rw [← HF.out] at hb5
              have H5 := hide (And.intro hb5 hg5)
              clear hb5 hg5
              go_wp2
              go_roundw
              case rel => exact ⟨a + 1, by omega, by go_num, H5.out.1, (HR3.out.2.trans H4.out.2).trans H5.out.2⟩
              case measure => simp [intOf]; omega
            · obtain rfl : a = 3 := by omega
              rw [facesE_all] at hb
              obtain ⟨ms, hms⟩ : ∃ ms, ms = allE ins := ⟨_, rfl⟩
              have hnl : ∀ x, nxE ms x = -1 ∨ ∃ y : Nat, y < 24 ∧ nxE ms x = y := fun x => by
                rw [hms, ← facesE_all]
                exact nxE_lt (facesE_lt ins 3 (by omega)) x
              rw [← hms] at hb
              have hB3 : Below bc V R3 := HR.out.2.trans (HR2.out.2.trans (grown_is_below hg (by have := HR2.out.1.lt; omega) (Nat.le_refl _)))
              have hBB := HBB.out
              have hk3 := HV.out.2.2.1.below hB3 (by omega)
              have hf3 := HV.out.2.1.below hB3 (by omega)
              have hBw : Below w.heap.size w R3 := HV.out.1.trans (hB3.mono (by omega))
              have f0 := hf3.cell 0
              simp only [List.getElem?_toArray, List.getElem?_cons_zero] at f0
              have hTe := HS.out.2.2.2.1
              rw [← hms] at hTe
              have HR3 := hide (And.intro hb (And.intro hk3 (And.intro hBw (And.intro hnl hTe))))
              clear hb hg hms hnl hB3 hBB hk3 hf3 hBw hTe
              go_upto_region 15 with fail
              go_cut [9] (fun v wx => v = .int .i64 h ∧ wx = R3)
              case first =>
                have hhe : (l = 1 ∧ h = 1048576) ∨ (l = 2 ∧ h = 524288) ∨ (l = 3 ∧ h = 262144) := by
                  have h1 := HS.out.2.2.2.2.2.1
                  rcases HL.out.2.2 with rfl | rfl | rfl <;> simp [h1]
                rcases hhe with ⟨rfl, hhe⟩ | ⟨rfl, hhe⟩ | ⟨rfl, hhe⟩
                · go_wp2_with fail
                  go_meet
                  case rel => exact ⟨by rw [hhe], rfl⟩
                · go_wp2_with fail
                  go_meet
                  case rel => exact ⟨by rw [hhe], rfl⟩
                · go_wp2_with fail
                  go_meet
                  case rel => exact ⟨by rw [hhe], rfl⟩
              case rest =>
                obtain ⟨rfl, rfl⟩ := hcut
                obtain ⟨R3, rfl⟩ : ∃ R, R = wc := ⟨_, rfl⟩
                clear f0
                have hrow : (R3.alloc (.cells #[.bool false, .bool false, .bool false, .bool false, .bool false, .bool false, .bool false, .bool false, .bool false, .bool false, .bool false, .bool false, .bool false, .bool false, .bool false, .bool false, .bool false, .bool false, .bool false, .bool false, .bool false, .bool false, .bool false, .bool false] 94)).heap[R3.heap.size]? = some (.cells #[.bool false, .bool false, .bool false, .bool false, .bool false, .bool false, .bool false, .bool false, .bool false, .bool false, .bool false, .bool false, .bool false, .bool false, .bool false, .bool false, .bool false, .bool false, .bool false, .bool false, .bool false, .bool false, .bool false, .bool false] 94 (0, 0)) := Blk.new _ _ _
                have HRW := hide hrow
                clear hrow
                go_upto_region 17 with fail
                refine wp_region_lit ?_
                refine wpList_buildTo (P := Try.prog) rfl 94 #[] rfl (some 72) rfl #[.bool false, .bool false, .bool false, .bool false, .bool false, .bool false, .bool false, .bool false, .bool false, .bool false, .bool false, .bool false, .bool false, .bool false, .bool false, .bool false, .bool false, .bool false, .bool false, .bool false, .bool false, .bool false, .bool false, .bool false] (by simpa using built24) ?_
                refine Go.Great.wpList_allocTo (P := Try.prog) rfl (some 11) rfl (.pointer (some ⟨R3.heap.size, 0, none⟩)) (.cells #[.bool false, .bool false, .bool false, .bool false, .bool false, .bool false, .bool false, .bool false, .bool false, .bool false, .bool false, .bool false, .bool false, .bool false, .bool false, .bool false, .bool false, .bool false, .bool false, .bool false, .bool false, .bool false, .bool false, .bool false] 94) (by kernel_rfl) ?_
                refine wpList_store_row (P := Try.prog) rfl 94 (.tmp 11) (.tmp 72) rfl R3.heap.size #[.bool false, .bool false, .bool false, .bool false, .bool false, .bool false, .bool false, .bool false, .bool false, .bool false, .bool false, .bool false, .bool false, .bool false, .bool false, .bool false, .bool false, .bool false, .bool false, .bool false, .bool false, .bool false, .bool false, .bool false] rfl rfl 94 #[.bool false, .bool false, .bool false, .bool false, .bool false, .bool false, .bool false, .bool false, .bool false, .bool false, .bool false, .bool false, .bool false, .bool false, .bool false, .bool false, .bool false, .bool false, .bool false, .bool false, .bool false, .bool false, .bool false, .bool false] HRW.out (by kernel_rfl) rfl (by kernel_rfl) ?_
                rw [World.setRow_alloc_new]
                clear HRW
                go_upto_region 18 with fail
                obtain ⟨X, hX⟩ : ∃ X, X = R3.alloc (.cells #[.bool false, .bool false, .bool false, .bool false, .bool false, .bool false, .bool false, .bool false, .bool false, .bool false, .bool false, .bool false, .bool false, .bool false, .bool false, .bool false, .bool false, .bool false, .bool false, .bool false, .bool false, .bool false, .bool false, .bool false] 94) := ⟨_, rfl⟩
                rw [← hX]
                obtain ⟨bs, hbs⟩ : ∃ b, b = R3.heap.size := ⟨_, rfl⟩
                rw [← hbs]
                have hsX : Blk X bs 94 (seenB []).toArray := by
                  rw [hX, show (seenB []).toArray = #[.bool false, .bool false, .bool false, .bool false, .bool false, .bool false, .bool false, .bool false, .bool false, .bool false, .bool false, .bool false, .bool false, .bool false, .bool false, .bool false, .bool false, .bool false, .bool false, .bool false, .bool false, .bool false, .bool false, .bool false] from rfl, hbs]
                  exact Blk.new _ _ _
                have hBX : Below w.heap.size w X := by rw [hX]; exact HR3.out.2.2.1.alloc HR3.out.2.2.1.size _
                have hcX : Blk X bc 91 (cellL ins ms).toArray := by rw [hX]; exact HR3.out.1.alloc _
                have hkX : Blk X bk 51 #[.int .i64 x, .int .i64 y, .int .i64 z] := by rw [hX]; exact HR3.out.2.1.alloc _
                have hbcs : bc < bs := by rw [hbs]; exact HR3.out.1.lt
                have hbks : bk < bs := by rw [hbs]; exact HR3.out.2.1.lt
                have hzX : X.heap.size = bs + 1 := by rw [hX, hbs]; simp
                have hwb : w.heap.size ≤ bs := by rw [hbs]; exact HR3.out.2.2.1.size
                have HX := hide (And.intro hsX (And.intro hBX (And.intro hcX (And.intro hkX (And.intro hzX (And.intro HR3.out.2.2.2.1 HR3.out.2.2.2.2))))))
                clear HR3 HR2 HR hsX hBX hcX hkX hX hzX hbs
                obtain ⟨nx, hnx⟩ : ∃ nx, nx = nxE ms := ⟨_, rfl⟩
                have HN := hide hnx
                clear hnx
                go_wp2
                go_loopw [10, 12] (fun ov iv wr => ∃ (k : Nat) (S : List Nat) (ts : List Tri), k ≤ 24 ∧ iv = .int .i64 k ∧ CycS nx ((x : Int), (y : Int), (z : Int)) h k S ts ∧ Own encT 9 40 wr X.heap.size ov ts.length ts ∧ Blk wr bs 94 (seenB S).toArray ∧ Below bs X wr) (fun _ iv _ => 24 - (intOf iv).toNat)
                case atStart => exact ⟨0, [], [], by omega, rfl, CycS.start _ _ _, Own.nil, HX.out.1, Below.refl _ X⟩
                case round =>
                  obtain ⟨k, S, ts, hk, rfl, hcs, hown, hbs, hB⟩ := hrel
                  obtain ⟨W0, rfl⟩ : ∃ R, R = wr := ⟨_, rfl⟩
                  obtain ⟨At, ct, rfl⟩ := hown.form
                  obtain ⟨tl, htl⟩ : ∃ tl, tl = ts.length := ⟨_, rfl⟩
                  rw [← htl] at hown ⊢
                  by_cases hlt4 : k < 24
                  · have i1 : (k : Int) < 24 := by omega
                    have HK := hide (And.intro hcs (And.intro hown (And.intro hbs (And.intro hB htl))))
                    clear hcs hown hbs hB htl
                    go_wp2
                    go_loopw [13, 14] (fun lv xv wr => ∃ (acc : List Nat) (p f : Nat), xv = .int .i64 p ∧ OrbS nx S k acc p f ∧ Own encP 3 38 wr W0.heap.size lv acc.length (acc.map fun q => pointP ((x : Int), (y : Int), (z : Int)) h (placeE q)) ∧ Blk wr bs 94 (seenB (acc.reverse ++ S)).toArray ∧ W0.grownBy wr (some bs)) (fun lv _ _ => 25 - lenV lv)
                    case atStart =>
                      obtain ⟨D, _, _, hn, hl, _⟩ := HK.out.1
                      exact ⟨[], k, 24, rfl, OrbS.start hn hl hlt4, Own.nil, HK.out.2.2.1, World.grownBy.refl _ _⟩
                    case round =>
                      obtain ⟨acc, p, f, rfl, hob, hown, hbs, hg⟩ := hrel
                      obtain ⟨W, rfl⟩ : ∃ R, R = wr := ⟨_, rfl⟩
                      obtain ⟨Ap, cp, rfl⟩ := hown.form
                      have hp24 : p < 24 := hob.2.2.2.2
                      have haf := hob.few
                      obtain ⟨Q, hQ⟩ : ∃ Q, Q = acc.reverse ++ S := ⟨_, rfl⟩
                      rw [← hQ] at hbs
                      obtain ⟨PL, hPL⟩ : ∃ PL, PL = acc.map fun q => pointP ((x : Int), (y : Int), (z : Int)) h (placeE q) := ⟨_, rfl⟩
                      rw [← hPL] at hown
                      obtain ⟨al, hal⟩ : ∃ al, al = acc.length := ⟨_, rfl⟩
                      rw [← hal] at hown haf ⊢
                      have hzw := HK.out.2.2.2.1.size
                      have hB0 := HK.out.2.2.2.1
                      have hzX := HX.out.2.2.2.2.1
                      have hBb : Below bs W0 W := grown_is_below hg (by omega) (Nat.le_refl _)
                      have hcW : Blk W bc 91 (cellL ins ms).toArray := (HX.out.2.2.1.below hB0 hbcs).below hBb hbcs
                      have hkW : Blk W bk 51 #[.int .i64 x, .int .i64 y, .int .i64 z] := (HX.out.2.2.2.1.below hB0 hbks).below hBb hbks
                      have c1 : W.cell? ⟨bc, 8 + p, none⟩ = some (.int .i64 (nx p)) := by rw [hcW.cell, List.getElem?_toArray, HN.out]; exact cellL_get ins ms hp24
                      have c2 : W.cell? ⟨bs, p, none⟩ = some (.bool (decide (p ∈ Q))) := by rw [hbs.cell, List.getElem?_toArray]; exact seenB_get Q hp24
                      have f2 := hbs.frozen p
                      have i2 : (p : Int) < 24 := by omega
                      have hnp : nx p = -1 ∨ ∃ y : Nat, y < 24 ∧ nx p = y := by rw [HN.out]; exact HX.out.2.2.2.2.2.1 p
                      obtain ⟨nv, hnv⟩ : ∃ nv, nv = nx p := ⟨_, rfl⟩
                      obtain ⟨sv, hsv⟩ : ∃ sv, sv = decide (p ∈ Q) := ⟨_, rfl⟩
                      rw [← hnv] at c1 hnp
                      rw [← hsv] at c2
                      have hgo : (decide (0 ≤ nv) && !sv) = true ↔ (0 ≤ nx p ∧ p ∉ acc.reverse ++ S) := by
                        rw [hnv, hsv, hQ, Bool.and_eq_true, decide_eq_true_eq, Bool.not_eq_true', decide_eq_false_iff_not]
                      have HW := hide (And.intro hob (And.intro hown (And.intro hbs (And.intro hg (And.intro hQ (And.intro hPL hal))))))
                      have HG := hide (And.intro hnp (And.intro hnv (And.intro hgo (And.intro hcW hkW))))
                      clear hob hown hbs hg hQ hPL hal hnp hnv hsv hgo hBb hcW hkW hB0 hzX hzw
                      go_upto_region 23 with fail
                      go_cut [90] (fun bv wx => bv = .bool (decide (0 ≤ nv) && !sv) ∧ wx = W)
                      case first =>
                        rcases HG.out.1 with rfl | ⟨y, hy, rfl⟩
                        · go_wp2_with fail
                          go_meet
                          case rel => exact ⟨rfl, rfl⟩
                        · have hz0 : decide ((0 : Int) ≤ (y : Int)) = true := decide_eq_true (by omega)
                          cases sv
                          · go_wp2_with fail
                            go_meet
                            case rel => exact ⟨by rw [hz0]; rfl, rfl⟩
                          · go_wp2_with fail
                            go_meet
                            case rel => exact ⟨by rw [hz0]; rfl, rfl⟩
                      case rest =>
                        obtain ⟨rfl, rfl⟩ := hcut
                        obtain ⟨W, rfl⟩ : ∃ R, R = wc := ⟨_, rfl⟩
                        obtain ⟨go, hgo⟩ : ∃ go, go = (decide (0 ≤ nv) && !sv) := ⟨_, rfl⟩
                        rw [← hgo]
                        have hgo2 := HG.out.2.2.1
                        rw [← hgo] at hgo2
                        have HO := hide hgo2
                        clear hgo hgo2
                        cases go
                        · as_aux_lemma =>
                          have hst := HW.out.1.stop (fun hh => by have := HO.out.2 hh; simp at this)
                          have hcs := HK.out.1.step hlt4 hst.1 hst.2.1 hst.2.2
                          have hbs : Blk W bs 94 (seenB (acc ++ S)).toArray := by
                            have h1 := HW.out.2.2.1
                            rw [HW.out.2.2.2.2.1, seenB_perm (T := acc ++ S) (fun x => by simp)] at h1
                            exact h1
                          have hBW : Below bs X W := HK.out.2.2.2.1.trans (grown_is_below HW.out.2.2.2.1 (by have := HK.out.2.2.2.1.size; have := HX.out.2.2.2.2.1; omega) (Nat.le_refl _))
                          have hownT : Own encT 9 40 W X.heap.size (.slice At tl ct) tl ts := HK.out.2.1.kept HW.out.2.2.2.1 (by
                            cases hob : (Value.slice At tl ct).ownBlock with
                            | none => exact .inl rfl
                            | some g' =>
                              refine .inr (fun e => ?_)
                              injection e with e
                              have := HK.out.2.1.blk g' hob
                              have := HX.out.2.2.2.2.1
                              omega)
                          have HE := hide (And.intro hcs (And.intro hbs (And.intro hBW hownT)))
                          clear c1 c2 f2 hst hcs hbs hBW hownT
                          by_cases h0 : al = 0
                          · subst h0
                            have ha0 : acc = [] := List.eq_nil_of_length_eq_zero HW.out.2.2.2.2.2.2.symm
                            have HA := hide ha0
                            clear ha0
                            go_wp2
                            go_roundw
                            case rel =>
                              refine ⟨k + 1, acc ++ S, ts, by omega, by go_num, ?_, ?_, HE.out.2.1, HE.out.2.2.1⟩
                              · have h1 := HE.out.1
                                rw [if_pos (by rw [HA.out]; rfl), List.append_nil] at h1
                                exact h1
                              · rw [← HK.out.2.2.2.2]
                                exact HE.out.2.2.2
                            case measure => simp [intOf]; omega
                          · have ipos : (0 : Int) < (al : Int) := by omega
                            have hPl : al = PL.length := HW.out.2.1.1
                            obtain ⟨g, cap0, hv0, hgb, hgl⟩ := HW.out.2.1.at (by intro e; rw [e] at hPl; exact h0 hPl)
                            obtain rfl : Ap = some ⟨g, 0, none⟩ := by injection hv0
                            have hsl := HW.out.2.1.sl encP_len8 (Nat.le_refl _)
                            have hgr : ∀ q ∈ PL, gridP q := fun q hq => by
                              rw [HW.out.2.2.2.2.2.1] at hq
                              obtain ⟨e, he, rfl⟩ := List.mem_map.1 hq
                              refine pointE_grid HS.out.2.2.2.2.2.2 (by rw [HS.out.2.2.2.2.2.1]; rcases HL.out.2.2 with rfl | rfl | rfl <;> decide) (placeE_bd ?_)
                              exact HW.out.1.2.2.2.1 e (List.mem_append.2 (.inl (List.mem_reverse.2 he)))
                            have hfan := fanE_any g 0 cp PL W hsl (by omega) (by omega) hgr
                            have hfl := fanP_length PL
                            obtain ⟨ys, hys⟩ : ∃ ys, ys = fanP PL := ⟨_, rfl⟩
                            obtain ⟨yl, hyl⟩ : ∃ yl, yl = ys.length := ⟨_, rfl⟩
                            rw [← hys, ← hyl, ← hPl] at hfan
                            rw [← hys, ← hyl, ← hPl] at hfl
                            have hyl24 : yl ≤ 24 := by omega
                            have htl24 : tl ≤ 24 := by have := HK.out.1.few; have := HK.out.2.2.2.2; omega
                            have HF := hide (And.intro hfan (And.intro hys hyl))
                            clear hfan hys hyl hgr hsl hfl hPl hv0 hgb
                            go_wp2_with fail
                            with_reducible refine HF.out.1.mono ?_
                            rintro e w2 ⟨vf, rfl, hof, hBf⟩
                            obtain ⟨fA, fc, rfl⟩ := hof.form
                            have hown2 := HE.out.2.2.2.below hBf (Nat.le_refl _)
                            have hsl2 := hof.sl encT_len8 (Nat.le_refl _)
                            have hz2 := hBf.size
                            have hzX := HE.out.2.2.1.size
                            have H2 := hide (And.intro hown2 (And.intro hsl2 hBf))
                            clear hof hown2 hsl2 hBf
                            go_wp2_with (at_builtin; refine wpList_appendS rfl _ _ _ rfl Try.underlying29 infoT8 rfl (by omega) encT_len8 encT_one8 rfl H2.out.1 fA fc w2.heap.size ys (by rw [← HF.out.2.2]; rfl) H2.out.2.1 (by rw [← HF.out.2.2]; unfold maxLen; omega) (by rw [← HF.out.2.2]; omega) (by omega) ?_; intro v5 w5 hown5 hg5 hB5 hat5)
                            go_roundw
                            case rel =>
                              have hzX1 := HX.out.2.2.2.2.1
                              have hlt5 : bs < W.heap.size := by omega
                              refine ⟨k + 1, acc ++ S, ts ++ ys, by omega, by go_num, ?_, ?_, ?_, ?_⟩
                              · have h1 := HE.out.1
                                rw [if_neg (by intro e; exact h0 (HW.out.2.2.2.2.2.2.trans (by rw [List.isEmpty_iff.1 e]; rfl))), ← HW.out.2.2.2.2.2.1, ← HF.out.2.1] at h1
                                exact h1
                              · rw [List.length_append, ← HK.out.2.2.2.2]
                                exact hown5
                              · exact (HE.out.2.1.below H2.out.2.2 hlt5).below hB5 (by omega)
                              · exact HE.out.2.2.1.trans ((H2.out.2.2.mono (by omega)).trans (hB5.mono (by omega)))
                            case measure => simp [intOf]; omega
                        · as_aux_lemma =>
                          have hh := HO.out.1 (by simp)
                          have hnp := HG.out.1
                          have hnv := HG.out.2.1
                          rcases hnp with h1 | ⟨y', hy24, h1⟩
                          · have h2 := hh.1
                            rw [← hnv, h1] at h2
                            omega
                          · subst h1
                            obtain ⟨f', hf', hob'⟩ := HW.out.1.step hnv.symm hy24 hh.2
                            obtain ⟨pt, hpt⟩ : ∃ pt, pt = pointP ((x : Int), (y : Int), (z : Int)) h (placeE p) := ⟨_, rfl⟩
                            have hcall : ∀ U, Calls Try.prog 49 #[.agg #[.int .i64 x, .int .i64 y, .int .i64 z], .int .i64 h, .int .i64 p] U fun r w' => r = .returned (vP pt) ∧ Below U.heap.size U w' := fun U => by
                              rw [hpt]
                              exact pointE_any ((x : Int), (y : Int), (z : Int)) h p hp24 HS.out.2.2.2.2.2.2 U
                            have HC := hide (And.intro hcall (And.intro hpt hob'))
                            clear hcall hpt hob' hh hnv
                            have hbsl := HW.out.2.2.1.lt
                            go_upto_region 26 with fail
                            obtain ⟨W1, hW1⟩ : ∃ U, U = W.setCell ⟨bs, p, none⟩ (.bool true) := ⟨_, rfl⟩
                            rw [← hW1]
                            have hb1 : Blk W1 bs 94 (seenB (p :: Q)).toArray := by
                              have h1 := HW.out.2.2.1.set_ p (.bool true)
                              rw [← hW1, show ((seenB Q).toArray.setIfInBounds p (.bool true)) = ((seenB Q).set p (.bool true)).toArray by simp, seenB_set Q hp24] at h1
                              exact h1
                            have hg1 : W.grownBy W1 (some bs) := by rw [hW1]; exact grown_set9 W bs p _
                            have hc1 : Blk W1 bc 91 (cellL ins ms).toArray := HG.out.2.2.2.1.grown hg1 (fun e => by injection e with e; omega)
                            have hk1 : Blk W1 bk 51 #[.int .i64 x, .int .i64 y, .int .i64 z] := HG.out.2.2.2.2.grown hg1 (fun e => by injection e with e; omega)
                            have hz01 := HK.out.2.2.2.1.size
                            have hzX1 := HX.out.2.2.2.2.1
                            have ho1 : Own encP 3 38 W1 W0.heap.size (.slice Ap al cp) al PL := HW.out.2.1.kept hg1 (by
                              cases hob : (Value.slice Ap al cp).ownBlock with
                              | none => exact .inl rfl
                              | some g' =>
                                refine .inr (fun e => ?_)
                                injection e with e
                                have := HW.out.2.1.blk g' hob
                                omega)
                            have hg01 := HW.out.2.2.2.1.trans hg1
                            obtain ⟨k0, k1, k2⟩ := hk1.three
                            have H1 := hide (And.intro hb1 (And.intro hg01 (And.intro hc1 ho1)))
                            clear hb1 hg1 hc1 hk1 ho1 hg01 hW1 c1 c2 f2
                            go_wp2_with fail
                            with_reducible refine (HC.out.1 _).mono ?_
                            rintro e w6 ⟨rfl, hB6⟩
                            have hz6 := hB6.size
                            have hz1 := H1.out.2.1.size
                            have ho6 := (H1.out.2.2.2.below hB6 (Nat.le_refl _)).alloc (.cells #[.int .i64 pt.1, .int .i64 pt.2.1, .int .i64 pt.2.2] 38)
                            have H6 := hide (And.intro ho6 hB6)
                            clear ho6 hB6 k0 k1 k2
                            go_wp2_with (at_builtin; refine wpList_append1 rfl _ _ _ rfl Try.underlying45 infoP8 rfl (by omega) encP_len8 encP_one8 rfl H6.out.1 w6.heap.size 1 pt rfl (Blk.new _ _ _) (by unfold maxLen; omega) (by omega) (by simp; omega) ?_; intro g cap w7 hown7 hg7 hB7 hat7 hgb7 hlt7; have hc7 : Blk w7 bc 91 (cellL ins ms).toArray := ((H1.out.2.2.1.below H6.out.2 H1.out.2.2.1.lt).alloc _).below hB7 (by omega); have c7 : w7.cell? ⟨bc, 8 + p, none⟩ = some (.int .i64 (y' : Int)) := by rw [hc7.cell, List.getElem?_toArray, HG.out.2.1, HN.out]; exact cellL_get ins ms hp24)
                            go_roundw
                            case rel =>
                              refine ⟨acc ++ [p], y', f', rfl, HC.out.2.2, ?_, ?_, ?_⟩
                              · rw [List.length_append, List.map_append, ← HW.out.2.2.2.2.2.1, ← HW.out.2.2.2.2.2.2]
                                simp only [List.length_singleton, List.map_cons, List.map_nil]
                                rw [← HC.out.2.1]
                                exact hown7
                              · rw [show (acc ++ [p]).reverse ++ S = p :: (acc.reverse ++ S) by simp, ← HW.out.2.2.2.2.1]
                                exact ((H1.out.1.below H6.out.2 H1.out.1.lt).alloc _).below hB7 (by omega)
                              · have hga := (H1.out.2.1.trans (grow_of_below H6.out.2 (some bs))).trans (World.grownBy_alloc w6 (.cells #[.int .i64 pt.1, .int .i64 pt.2.1, .int .i64 pt.2.2] 38) (some bs))
                                refine hga.andThen hg7 (fun j hj => .inl ?_)
                                exact (H6.out.1.blk j hj).1
                            case measure => simp [lenV]; omega
                  · obtain rfl : k = 24 := by omega
                    have hte := hcs.end_
                    rw [HN.out, ← HX.out.2.2.2.2.2.2] at hte
                    have hBw := HX.out.2.1.trans (hB.mono (by omega))
                    have HE := hide (And.intro (hown.base_le HX.out.2.1.size) (And.intro hBw (And.intro hte htl)))
                    clear hcs hown hbs hB htl hte hBw
                    go_wp2
                    go_ret
                    refine ⟨_, rfl, ?_, HE.out.2.1⟩
                    rw [← HE.out.2.2.1, ← HE.out.2.2.2]
                    exact HE.out.1
end Go.Proofs.Ytfljcgehhnmamaa
