/- Joined texts: S7M S7N S7O S7W. -/
import Derived.Test.YtdpgohpbannfnaaCB11
import Derived.Test.YtdpgohpbannfnaaCB13
/- (*seal.sealer).inside: words. -/
namespace Go.Proofs.Ytdpgohpbannfnaa
open Go.RowKit Go.Sort Go.WideMaps Go.Maps
theorem insW_x (E : EF → Bool) (x y z : Nat) : insW E (x + 1) y z = (insW E x y z != E (0, (x : Int), (y : Int), (z : Int))) := by
  unfold insW
  rw [xorN]
  generalize xorN _ z = a1
  generalize xorN _ y = a2
  generalize xorN _ x = a3
  generalize E _ = a4
  cases a1 <;> cases a2 <;> cases a3 <;> cases a4 <;> rfl
theorem insW_y (E : EF → Bool) (y z : Nat) : insW E 0 (y + 1) z = (insW E 0 y z != E (1, 0, (y : Int), (z : Int))) := by
  show (((xorN _ z) != (xorN _ y != E (1, 0, (y : Int), (z : Int)))) != false) = (((xorN _ z != xorN _ y) != false) != E (1, 0, (y : Int), (z : Int)))
  generalize xorN _ z = a1
  generalize xorN _ y = a2
  generalize E _ = a4
  cases a1 <;> cases a2 <;> cases a4 <;> rfl
theorem insW_z (E : EF → Bool) (z : Nat) : insW E 0 0 (z + 1) = (insW E 0 0 z != E (2, 0, 0, (z : Int))) := by
  unfold insW
  simp [xorN]
theorem insW_0 (E : EF → Bool) : insW E 0 0 0 = false := rfl
/-- What is known once the first k vertices are done. -/
def wayL (E : EF → Bool) (s m k : Nat) : List Bool := (List.range m).map fun i => decide (i < k) && insW E (i % s) (i / s % s) (i / s / s)
theorem wayL_length (E : EF → Bool) (s m k : Nat) : (wayL E s m k).length = m := by simp [wayL]
theorem wayL_zero (E : EF → Bool) (s m : Nat) : wayL E s m 0 = List.replicate m false := by
  refine List.eq_replicate_iff.2 ⟨wayL_length _ _ _ _, fun b hb => ?_⟩
  obtain ⟨i, _, rfl⟩ := List.mem_map.1 hb
  simp
theorem wayL_get {E : EF → Bool} {s m k i : Nat} (hi : i < m) : (wayL E s m k)[i]? = some (decide (i < k) && insW E (i % s) (i / s % s) (i / s / s)) := by
  unfold wayL
  rw [List.getElem?_map, List.getElem?_range hi]
  rfl
theorem wayL_set {E : EF → Bool} {s m k : Nat} (hk : k < m) {b : Bool} (hb : b = insW E (k % s) (k / s % s) (k / s / s)) : (wayL E s m k).set k b = wayL E s m (k + 1) := by
  refine List.ext_getElem? fun i => ?_
  rw [List.getElem?_set]
  rcases Nat.lt_or_ge i m with hi | hi
  · rw [wayL_get hi, wayL_get hi]
    split
    · rename_i h
      subst h
      rw [if_pos (by rw [wayL_length]; exact hk), hb, decide_eq_true (show k < k + 1 by omega)]
      rfl
    · rename_i h
      congr 2
      exact decide_eq_decide.2 (by omega)
  · rw [List.getElem?_eq_none (by rw [wayL_length]; exact hi), List.getElem?_eq_none (by rw [wayL_length]; exact hi), if_neg (by omega)]
/-- The border struck out among the first k. -/
def strL (E : EF → Bool) (n m k : Nat) : List Bool := (List.range m).map fun i => insW E (i % (n + 1)) (i / (n + 1) % (n + 1)) (i / (n + 1) / (n + 1)) && !(decide (i < k) && bdV n (i % (n + 1)) (i / (n + 1) % (n + 1)) (i / (n + 1) / (n + 1)))
theorem strL_length (E : EF → Bool) (n m k : Nat) : (strL E n m k).length = m := by simp [strL]
theorem strL_zero (E : EF → Bool) (n m : Nat) : wayL E (n + 1) m m = strL E n m 0 := by
  unfold wayL strL
  refine List.map_congr_left fun i hi => ?_
  rw [decide_eq_true (List.mem_range.1 hi), decide_eq_false (show ¬ i < 0 by omega)]
  simp
theorem strL_get {E : EF → Bool} {n m k i : Nat} (hi : i < m) : (strL E n m k)[i]? = some (insW E (i % (n + 1)) (i / (n + 1) % (n + 1)) (i / (n + 1) / (n + 1)) && !(decide (i < k) && bdV n (i % (n + 1)) (i / (n + 1) % (n + 1)) (i / (n + 1) / (n + 1)))) := by
  unfold strL
  rw [List.getElem?_map, List.getElem?_range hi]
  rfl
theorem strL_bd {E : EF → Bool} {n m k : Nat} (hk : k < m) (hb : bdV n (k % (n + 1)) (k / (n + 1) % (n + 1)) (k / (n + 1) / (n + 1)) = true) : (strL E n m k).set k false = strL E n m (k + 1) := by
  refine List.ext_getElem? fun i => ?_
  rw [List.getElem?_set]
  rcases Nat.lt_or_ge i m with hi | hi
  · rw [strL_get hi, strL_get hi]
    split
    · rename_i h
      subst h
      rw [if_pos (by rw [strL_length]; exact hk), hb, decide_eq_true (show k < k + 1 by omega)]
      simp
    · rename_i h
      have : decide (i < k) = decide (i < k + 1) := decide_eq_decide.2 (by omega)
      rw [this]
  · rw [List.getElem?_eq_none (by rw [strL_length]; exact hi), List.getElem?_eq_none (by rw [strL_length]; exact hi), if_neg (by omega)]
theorem strL_in {E : EF → Bool} {n m k : Nat} (hb : bdV n (k % (n + 1)) (k / (n + 1) % (n + 1)) (k / (n + 1) / (n + 1)) = false) : strL E n m k = strL E n m (k + 1) := by
  unfold strL
  refine List.map_congr_left fun i _ => ?_
  by_cases h : i = k
  · subst h
    rw [hb]; simp
  · have : decide (i < k) = decide (i < k + 1) := decide_eq_decide.2 (by omega)
    rw [this]
theorem strL_end {E : EF → Bool} {n : Nat} (h : ∀ x y z, x ≤ n → y ≤ n → z ≤ n → insW E x y z = insV E x y z) : strL E n ((n + 1) * (n + 1) * (n + 1)) ((n + 1) * (n + 1) * (n + 1)) = insL7 E n ((n + 1) * (n + 1) * (n + 1)) := by
  unfold strL insL7
  refine List.map_congr_left fun i hi => ?_
  obtain ⟨v1, v2, v3⟩ := vtxS_lt (List.mem_range.1 hi)
  unfold vtxS at v1 v2 v3
  dsimp only at v1 v2 v3
  rw [decide_eq_true (List.mem_range.1 hi), Bool.true_and, h _ _ _ (by omega) (by omega) (by omega)]
end Go.Proofs.Ytdpgohpbannfnaa
/- Rows of truth values; a step of inside. -/
namespace Go.Proofs.Ytdpgohpbannfnaa
open Go.RowKit Go.Sort Go.WideMaps Go.Maps
/-- Block g holds the truth values F. -/
def RowB (w : World) (g : Nat) (F : List Bool) : Prop := Blk w g 4 (F.map Value.bool).toArray
theorem RowB.cell {w : World} {g i : Nat} {F : List Bool} {b : Bool} (h : RowB w g F) (hi : F[i]? = some b) : w.cell? ⟨g, i, none⟩ = some (.bool b) := by
  rw [Blk.cell h]
  simp [hi]
theorem RowB.set {w : World} {g : Nat} {F : List Bool} (h : RowB w g F) (i : Nat) (b : Bool) : RowB (w.setCell ⟨g, i, none⟩ (.bool b)) g (F.set i b) := by
  have := Blk.set_ h i (.bool b)
  unfold RowB
  rw [show ((F.set i b).map Value.bool).toArray = (F.map Value.bool).toArray.setIfInBounds i (.bool b) by simp [List.map_set]]
  exact this
theorem RowB.below {w w' : World} {g B : Nat} {F : List Bool} (h : RowB w g F) (hb : Below B w w') (hg : g < B) : RowB w' g F := Blk.below h hb hg
theorem infoBl7 : (Try.prog.info? 4).map (fun i => (i.zero, i.size, i.bytes)) = some (some (.bool false), 1, 1) := by kernel_rfl
theorem mk_bl7 (n : Nat) (hn : n ≤ 100000000) (W : World) : (Instr.makeSlice 30 (.int .i64 (n : Int)) (.int .i64 (n : Int))).run Try.prog W = .ok (.slice (some ⟨W.heap.size, 0, none⟩) n n) (W.alloc (.cells ((List.replicate n false).map Value.bool).toArray 4)) := by
  obtain ⟨i, hi, hz, hs, hb⟩ := info_parts infoBl7
  have h := run_make (P := Try.prog) W 30 4 i (.bool false) Try.underlying30 hi hz .i64 .i64 n n (by omega) (by omega) (by rw [hb]; omega) (by omega)
  rw [h, hs]
  have e : madeCells (Value.bool false).cells ((n : Int).toNat * 1) = ((List.replicate n false).map Value.bool).toArray := by
    refine Array.ext (by simp [size_madeCells]) fun k h1 h2 => ?_
    simp [madeCells, Value.cells, Nat.mod_one]
  rw [e, Int.toNat_natCast]
/-- Component i of a vertex. -/
def cmpN (x y z i : Nat) : Nat := if i = 0 then x else if i = 1 then y else z
theorem way_step {s x y z i : Nat} (E : EF → Bool) (hi : i < 3) (hx : x < s) (hy : y < s) (hz : z < s) (h0 : ∀ j, j < i → cmpN x y z j = 0) (hc : 0 < cmpN x y z i) :
    ∃ x' y' z' : Nat, add3 ((x : Int), (y : Int), (z : Int)) (i : Int) (-1) = ((x' : Int), (y' : Int), (z' : Int)) ∧ (x' < s ∧ y' < s ∧ z' < s) ∧ (z' * s + y') * s + x' < (z * s + y) * s + x ∧ insW E x y z = (insW E x' y' z' != E ((i : Int), (x' : Int), (y' : Int), (z' : Int))) := by
  have hcs : i = 0 ∨ i = 1 ∨ i = 2 := by omega
  rcases hcs with rfl | rfl | rfl
  · obtain ⟨a, rfl⟩ : ∃ a, x = a + 1 := ⟨x - 1, by unfold cmpN at hc; simp at hc; omega⟩
    refine ⟨a, y, z, ?_, by omega, by omega, insW_x E a y z⟩
    unfold add3 set3 cmp3
    simp
    omega
  · have e0 : x = 0 := h0 0 (by omega)
    subst e0
    obtain ⟨a, rfl⟩ : ∃ a, y = a + 1 := ⟨y - 1, by unfold cmpN at hc; simp at hc; omega⟩
    refine ⟨0, a, z, ?_, by omega, ?_, insW_y E a z⟩
    · unfold add3 set3 cmp3
      simp
      omega
    · have : (z * s + (a + 1)) * s = (z * s + a) * s + s := by rw [← Nat.add_assoc, Nat.succ_mul]
      rw [this]
      generalize (z * s + a) * s = q
      omega
  · have e0 : x = 0 := h0 0 (by omega)
    have e1 : y = 0 := h0 1 (by omega)
    subst e0
    subst e1
    obtain ⟨a, rfl⟩ : ∃ a, z = a + 1 := ⟨z - 1, by unfold cmpN at hc; simp at hc; omega⟩
    refine ⟨0, 0, a, ?_, by omega, ?_, insW_z E a⟩
    · unfold add3 set3 cmp3
      simp
      omega
    · have e1 : (a + 1) * s = a * s + s := Nat.succ_mul a s
      have e2 : ((a + 1) * s + 0) * s = (a * s + 0) * s + s * s := by rw [e1, Nat.add_zero, Nat.add_zero, Nat.add_mul]
      have h2 : 0 < s * s := Nat.mul_pos (by omega) (by omega)
      rw [e2]
      generalize (a * s + 0) * s = q
      generalize s * s = r at *
      omega
/-- The number of a vertex, taken apart. -/
theorem num_parts {s x y z : Nat} (hx : x < s) (hy : y < s) (hz : z < s) : ((z * s + y) * s + x) % s = x ∧ ((z * s + y) * s + x) / s % s = y ∧ ((z * s + y) * s + x) / s / s = z ∧ (z * s + y) * s + x < s * s * s := by
  have h := vtx_vtxN (s := s) (p := ((x : Int), (y : Int), (z : Int))) (by dsimp only; omega) (by dsimp only; omega) (by dsimp only; omega)
  unfold vtxN vtxS at h
  simp only [Int.toNat_natCast, Prod.mk.injEq] at h
  omega
set_option maxRecDepth 100000 in
theorem SetM.look {w : World} {mb cnt : Nat} {E : EF → Bool} (h : SetM w mb cnt E) (e : EF) (hf : fitsF e) : (Instr.lookup 63 (.map (some mb)) (vF e) false).run Try.prog w = .ok (.bool (E e)) w := by
  have := MapK.lookup kfE7 (show MapK Try.prog 70 vF fitsF w mb cnt (setV E) from h) (t := 63) (e := 4) Try.underlying63 (z := .bool false) rfl e hf
  rw [setV_get] at this
  exact this
theorem wayL_skip {E : EF → Bool} {s m k : Nat} (h : insW E (k % s) (k / s % s) (k / s / s) = false) : wayL E s m k = wayL E s m (k + 1) := by
  unfold wayL
  refine List.map_congr_left fun i _ => ?_
  by_cases hi : i = k
  · subst hi; rw [h]; simp
  · rw [show decide (i < k) = decide (i < k + 1) from decide_eq_decide.2 (by omega)]
theorem cmpN_all {x y z : Nat} (h : ∀ j, j < 3 → cmpN x y z j = 0) : x = 0 ∧ y = 0 ∧ z = 0 := ⟨h 0 (by omega), h 1 (by omega), h 2 (by omega)⟩
end Go.Proofs.Ytdpgohpbannfnaa
/- (*seal.sealer).inside. -/
namespace Go.Proofs.Ytdpgohpbannfnaa
open Go.RowKit Go.Sort Go.WideMaps Go.Maps
set_option maxRecDepth 100000 in
set_option maxHeartbeats 32000000 in
theorem inside7_any (bs mb n cnt : Nat) (E : EF → Bool) (w : World) (hn1 : 1 ≤ n) (hn : n ≤ 256) (hS : SealM w bs mb n cnt E) :
    Calls Try.prog 36 #[.pointer (some ⟨bs, 0, none⟩)] w fun e w' => ∃ gi, e = .returned (.slice (some ⟨gi, 0, none⟩) ((n + 1) * (n + 1) * (n + 1)) ((n + 1) * (n + 1) * (n + 1))) ∧ RowB w' gi (strL E n ((n + 1) * (n + 1) * (n + 1)) ((n + 1) * (n + 1) * (n + 1))) ∧ w.heap.size ≤ gi ∧ Below w.heap.size w w' := by
  have hlb := hS.box.lt
  have hlm := hS.set.lt
  obtain ⟨s, hs⟩ : ∃ s, s = n + 1 := ⟨_, rfl⟩
  obtain ⟨q2, hq2⟩ : ∃ q, q = s * s := ⟨_, rfl⟩
  obtain ⟨m, hm⟩ : ∃ m, m = q2 * s := ⟨_, rfl⟩
  have hs257 : s ≤ 257 := by omega
  have hq2b : q2 ≤ 66049 := by rw [hq2]; exact Nat.mul_le_mul hs257 hs257
  have hmb : m ≤ 16974593 := by rw [hm]; exact Nat.mul_le_mul hq2b hs257
  have f1 : (s : Int) * (s : Int) = (q2 : Int) := by rw [hq2]; push_cast; rfl
  have f2 : (q2 : Int) * (s : Int) = (m : Int) := by rw [hm]; push_cast; rfl
  have hmk := mk_bl7 m (by omega)
  have hmse : m = s * s * s := by rw [hm, hq2]
  have hmn : (n + 1) * (n + 1) * (n + 1) = m := by rw [hmse, hs]
  rw [hmn]
  have f3 : (n : Int) + 1 = (s : Int) := by omega
  have HN := hide (And.intro hs (And.intro hmse hS))
  clear hs hq2 hm hmse hS hmn
  obtain ⟨Z0, hZ0⟩ : ∃ Z, Z = ((List.replicate m false).map Value.bool).toArray := ⟨_, rfl⟩
  rw [← hZ0] at hmk
  have HZ0 := hide hZ0
  clear hZ0
  obtain ⟨b0, b1⟩ := HN.out.2.2.two
  go_enter Try.func36, Try.ntmps36
  go_upto_region 4 with fail
  obtain ⟨X, hX⟩ : ∃ X, X = (w.alloc (.cells #[.int .i64 s] 3)).alloc (.cells Z0 4) := ⟨_, rfl⟩
  rw [← hX]
  have hzX : X.heap.size = w.heap.size + 2 := by rw [hX]; simp
  have hgX : Blk X w.heap.size 3 #[.int .i64 s] := by rw [hX]; exact (Blk.new _ _ _).alloc _
  have hrX : RowB X (w.heap.size + 1) (wayL E s m 0) := by
    rw [hX, wayL_zero]
    unfold RowB
    rw [← HZ0.out]
    exact Blk.new' _ _ _ _ (by simp)
  have hBX : Below w.heap.size w X := by rw [hX]; exact ((Below.refl _ w).alloc (Nat.le_refl _) _).alloc (by simp) _
  have HX := hide (And.intro hgX (And.intro hrX hBX))
  have c0 : X.cell? ⟨w.heap.size, 0, none⟩ = some (.int .i64 s) := hgX.cell 0
  clear hX hgX hrX hBX hmk HZ0 f1 f2 b0 b1
  go_wp2_with fail
  clear c0
  go_loopw [27] (fun zv wr => ∃ z : Nat, z ≤ s ∧ zv = .int .i64 z ∧ Blk wr w.heap.size 3 #[.int .i64 s] ∧ RowB wr (w.heap.size + 1) (wayL E s m (z * s * s)) ∧ Below w.heap.size w wr ∧ w.heap.size + 2 ≤ wr.heap.size) (fun zv _ => s - (intOf zv).toNat)
  case atStart => exact ⟨0, by omega, rfl, HX.out.1, by rw [Nat.zero_mul, Nat.zero_mul]; exact HX.out.2.1, HX.out.2.2, by omega⟩
  case round =>
    obtain ⟨z, hz, rfl, hg, hr, hB, hzw⟩ := hrel
    obtain ⟨V, rfl⟩ : ∃ V, V = wr := ⟨_, rfl⟩
    have c0 : V.cell? ⟨w.heap.size, 0, none⟩ = some (.int .i64 s) := hg.cell 0
    by_cases hzs : z < s
    · have i1 : (z : Int) < (s : Int) := by omega
      have HV := hide (And.intro hg (And.intro hr (And.intro hB hzw)))
      clear hg hr hB hzw
      go_wp2_with fail
      clear c0
      go_loopw [31] (fun yv wr => ∃ y : Nat, y ≤ s ∧ yv = .int .i64 y ∧ Blk wr w.heap.size 3 #[.int .i64 s] ∧ RowB wr (w.heap.size + 1) (wayL E s m ((z * s + y) * s)) ∧ Below w.heap.size w wr ∧ w.heap.size + 2 ≤ wr.heap.size) (fun yv _ => s - (intOf yv).toNat)
      case atStart => exact ⟨0, by omega, rfl, HV.out.1, by rw [Nat.add_zero]; exact HV.out.2.1, HV.out.2.2⟩
      case round =>
        obtain ⟨y, hy, rfl, hg, hr, hB, hzw⟩ := hrel
        obtain ⟨V, rfl⟩ : ∃ V, V = wr := ⟨_, rfl⟩
        have c0 : V.cell? ⟨w.heap.size, 0, none⟩ = some (.int .i64 s) := hg.cell 0
        by_cases hys : y < s
        · have i2 : (y : Int) < (s : Int) := by omega
          have HV := hide (And.intro hg (And.intro hr (And.intro hB hzw)))
          clear hg hr hB hzw
          go_wp2_with fail
          clear c0
          go_loopw [35] (fun xv wr => ∃ x : Nat, x ≤ s ∧ xv = .int .i64 x ∧ Blk wr w.heap.size 3 #[.int .i64 s] ∧ RowB wr (w.heap.size + 1) (wayL E s m ((z * s + y) * s + x)) ∧ Below w.heap.size w wr ∧ w.heap.size + 2 ≤ wr.heap.size) (fun xv _ => s - (intOf xv).toNat)
          case atStart => exact ⟨0, by omega, rfl, HV.out.1, by rw [Nat.add_zero]; exact HV.out.2.1, HV.out.2.2⟩
          case round =>
            obtain ⟨x, hx, rfl, hg, hr, hB, hzw⟩ := hrel
            obtain ⟨V, rfl⟩ : ∃ V, V = wr := ⟨_, rfl⟩
            by_cases hxs : x < s
            · have i3 : (x : Int) < (s : Int) := by omega
              obtain ⟨np1, np2, np3, np4⟩ := num_parts hxs hys hzs
              obtain ⟨k, hk⟩ : ∃ k, k = (z * s + y) * s + x := ⟨_, rfl⟩
              rw [← hk] at np1 np2 np3 np4 hr
              rw [← HN.out.2.1] at np4
              obtain ⟨Y, hY⟩ : ∃ Y, Y = V.alloc (.cells #[.int .i64 x, .int .i64 y, .int .i64 z] 68) := ⟨_, rfl⟩
              have hBY : Below V.heap.size V Y := by rw [hY]; exact (Below.refl _ V).alloc (Nat.le_refl _) _
              have hpY : Blk Y V.heap.size 68 #[.int .i64 x, .int .i64 y, .int .i64 z] := by rw [hY]; exact Blk.new _ _ _
              have hgY := hg.below hBY (by omega)
              have hrY := hr.below hBY (by omega)
              have hSY := HN.out.2.2.below (hB.trans (hBY.mono hB.size)) hlb hlm
              have HY := hide (And.intro hpY (And.intro hgY (And.intro hrY (And.intro hSY (And.intro (hB.trans (hBY.mono hB.size)) (And.intro hY hBY.size))))))
              have HK := hide (And.intro hk (And.intro np1 (And.intro np2 (And.intro np3 hzw))))
              have hzw2 := hzw
              clear hg hr hB hzw np1 np2 np3 hk hY hBY hpY hgY hrY hSY
              go_upto_region 14 with fail
              rw [← HY.out.2.2.2.2.2.1]
              go_wp2_with fail
              go_loopw [42] (fun iv wr => ∃ i : Nat, i ≤ 3 ∧ iv = .int .i64 i ∧ wr = Y ∧ ∀ j, j < i → cmpN x y z j = 0) (fun iv _ => 3 - (intOf iv).toNat)
              case atStart => exact ⟨0, by omega, rfl, rfl, fun j hj => by omega⟩
              case round =>
                obtain ⟨i, hi, rfl, rfl, h0⟩ := hrel
                obtain ⟨Y, rfl⟩ : ∃ Y, Y = wr := ⟨_, rfl⟩
                by_cases hi3 : i < 3
                · have i4 : (i : Int) < 3 := by omega
                  have hci : Y.cell? ⟨V.heap.size, i, none⟩ = some (.int .i64 (cmpN x y z i : Nat)) := by
                    have hcs : i = 0 ∨ i = 1 ∨ i = 2 := by omega
                    rcases hcs with rfl | rfl | rfl
                    · exact HY.out.1.cell 0
                    · exact HY.out.1.cell 1
                    · exact HY.out.1.cell 2
                  by_cases hc : 0 < cmpN x y z i
                  · obtain ⟨x', y', z', ha, ⟨hx', hy', hz'⟩, hlt, hins⟩ := way_step E hi3 hxs hys hzs h0 hc
                    have hmv := moved7_any ((x : Int), (y : Int), (z : Int)) i (-1) (by omega) (by unfold midP7 midI; dsimp only; omega) (by unfold midI; omega) Y
                    rw [ha] at hmv
                    obtain ⟨ci, hci'⟩ : ∃ c, c = cmpN x y z i := ⟨_, rfl⟩
                    rw [← hci'] at hci hc
                    have j1 : (0 : Int) < (ci : Int) := by omega
                    obtain ⟨kk, hkk⟩ : ∃ k, k = (z' * s + y') * s + x' := ⟨_, rfl⟩
                    obtain ⟨kp1, kp2, kp3, kp4⟩ := num_parts hx' hy' hz'
                    rw [← hkk] at kp1 kp2 kp3 kp4
                    rw [← HN.out.2.1] at kp4
                    rw [← hkk, ← HK.out.1] at hlt
                    obtain ⟨ee, hee⟩ : ∃ b, E ((i : Int), (x' : Int), (y' : Int), (z' : Int)) = b := ⟨_, rfl⟩
                    have hfe : fitsF ((i : Int), (x' : Int), (y' : Int), (z' : Int)) := by unfold fitsF fitsP fits; dsimp only; omega
                    obtain ⟨bb, hbb⟩ : ∃ b, insW E x' y' z' = b := ⟨_, rfl⟩
                    rw [hee, hbb] at hins
                    have hFk : (wayL E s m k)[kk]? = some bb := by
                      rw [wayL_get kp4, kp1, kp2, kp3, hbb, decide_eq_true hlt]
                      rfl
                    have hFn : (wayL E s m k).set k (bb != ee) = wayL E s m (k + 1) := wayL_set np4 (by rw [HK.out.2.1, HK.out.2.2.1, HK.out.2.2.2.1, hins])
                    obtain ⟨p0, p1, p2⟩ := HY.out.1.three
                    have HM := hide (And.intro hmv (And.intro hFk (And.intro hFn (And.intro hkk (And.intro hee hfe)))))
                    clear hmv hFk hFn hkk hci' ha hlt hins kp1 kp2 kp3 hbb h0 hee hfe
                    go_wp2_with fail
                    refine HM.out.1.mono ?_
                    rintro r w5 ⟨rfl, hL5⟩
                    have hB5 := hL5.below
                    have H5 := hide (And.intro (HY.out.1.below hB5 HY.out.1.lt) (And.intro (HY.out.2.1.below hB5 HY.out.2.1.lt) (And.intro (HY.out.2.2.1.below hB5 (Blk.lt HY.out.2.2.1)) (And.intro (HY.out.2.2.2.1.below hB5 HY.out.2.2.2.1.box.lt HY.out.2.2.2.1.set.lt) (HY.out.2.2.2.2.1.trans (hB5.mono HY.out.2.2.2.2.1.size))))))
                    clear hL5 hB5 p0 p1 p2
                    go_upto_region 19 with fail
                    obtain ⟨Z, hZ⟩ : ∃ Z, Z = w5.alloc (.cells #[.int .i64 x', .int .i64 y', .int .i64 z'] 68) := ⟨_, rfl⟩
                    rw [← hZ]
                    have hBZ : Below w5.heap.size w5 Z := by rw [hZ]; exact (Below.refl _ w5).alloc (Nat.le_refl _) _
                    have hqZ : Blk Z w5.heap.size 68 #[.int .i64 x', .int .i64 y', .int .i64 z'] := by rw [hZ]; exact Blk.new _ _ _
                    have hpZ := H5.out.1.below hBZ H5.out.1.lt
                    have hgZ := H5.out.2.1.below hBZ H5.out.2.1.lt
                    have hrZ := H5.out.2.2.1.below hBZ (Blk.lt H5.out.2.2.1)
                    have hSZ := H5.out.2.2.2.1.below hBZ H5.out.2.2.2.1.box.lt H5.out.2.2.2.1.set.lt
                    have hSS : ∀ W, Below Z.heap.size Z W → (fun W => Blk W V.heap.size 68 #[.int .i64 x, .int .i64 y, .int .i64 z] ∧ Blk W w5.heap.size 68 #[.int .i64 x', .int .i64 y', .int .i64 z'] ∧ Blk W w.heap.size 3 #[.int .i64 s] ∧ Blk W bs 72 #[.int .i64 n, .map (some mb)] ∧ SetM W mb cnt E ∧ RowB W (w.heap.size + 1) (wayL E s m k)) W := fun W hW => ⟨hpZ.below hW hpZ.lt, hqZ.below hW hqZ.lt, hgZ.below hW hgZ.lt, hSZ.box.below hW hSZ.box.lt, hSZ.set.below hW hSZ.set.lt, hrZ.below hW (Blk.lt hrZ)⟩
                    have hBwZ := H5.out.2.2.2.2.trans (hBZ.mono H5.out.2.2.2.2.size)
                    have HZ := hide (And.intro (And.intro hSS hBwZ) (hSS Z.drew (Below.refl _ Z).drew))
                    have hee := HM.out.2.2.2.2.1
                    have hfe := HM.out.2.2.2.2.2
                    clear hZ hBZ hqZ hpZ hgZ hrZ hSZ hSS hBwZ
                    refine wp_region_mix (fun W => Blk W V.heap.size 68 #[.int .i64 x, .int .i64 y, .int .i64 z] ∧ Blk W w5.heap.size 68 #[.int .i64 x', .int .i64 y', .int .i64 z'] ∧ Blk W w.heap.size 3 #[.int .i64 s] ∧ Blk W bs 72 #[.int .i64 n, .map (some mb)] ∧ SetM W mb cnt E ∧ RowB W (w.heap.size + 1) (wayL E s m k)) [0, 1, 2, 4, 5, 6, 10, 11, 12, 13, 14, 15, 16, 17] [0, 1, 2, 4, 5, 6, 10, 11, 12, 13, 14, 15, 16, 17, 3, 7, 8, 9, 18, 19, 20] mixed_ok (by kernel_rfl) ?_
                    refine wpMix_q (v := .slice (some ⟨w.heap.size + 1, 0, none⟩) m m) rfl rfl (fun _ _ _ h => h) HZ.out.2 ⟨rfl, fun _ h' => by simp [go_sem]⟩ ?_
                    refine wpMix_q (v := .func (.func 48) #[] #[.pointer (some ⟨w.heap.size, 0, none⟩)]) rfl rfl (fun _ _ _ h => h) HZ.out.2 ⟨rfl, fun _ h' => by simp [go_sem]⟩ ?_
                    refine wpMix_q (v := .agg #[.int .i64 x, .int .i64 y, .int .i64 z]) rfl rfl (fun _ _ _ h => h) HZ.out.2 ⟨rfl, (fun _ h' => by obtain ⟨a0, a1, a2⟩ := h'.1.three; simp [go_sem, a0, a1, a2])⟩ ?_
                    refine wpMix_q (v := .slice (some ⟨w.heap.size + 1, 0, none⟩) m m) rfl rfl (fun _ _ _ h => h) HZ.out.2 ⟨rfl, fun _ h' => by simp [go_sem]⟩ ?_
                    refine wpMix_q (v := .func (.func 48) #[] #[.pointer (some ⟨w.heap.size, 0, none⟩)]) rfl rfl (fun _ _ _ h => h) HZ.out.2 ⟨rfl, fun _ h' => by simp [go_sem]⟩ ?_
                    simp only [List.getElem_toArray, List.getElem_cons_succ, List.getElem_cons_zero, Act.put, List.setIfInBounds_toArray, List.set_cons_succ, List.set_cons_zero]
                    refine wpMix_q (v := vP ((x' : Int), (y' : Int), (z' : Int))) rfl rfl (fun _ _ _ h => h) HZ.out.2 ⟨rfl, (fun _ h' => by obtain ⟨a0, a1, a2⟩ := h'.2.1.three; simp [go_sem, a0, a1, a2])⟩ ?_
                    refine wpMix_q (v := .pointer (some ⟨bs, 0, none⟩)) rfl rfl (fun _ _ _ h => h) HZ.out.2 ⟨rfl, fun _ h' => by simp [go_sem]⟩ ?_
                    refine wpMix_q (v := .pointer (some ⟨bs, 0, none⟩)) rfl rfl (fun _ _ _ h => h) HZ.out.2 ⟨rfl, fun _ h' => by simp [go_sem]⟩ ?_
                    refine wpMix_q (v := .pointer (some ⟨bs, 1, none⟩)) rfl rfl (fun _ _ _ h => h) HZ.out.2 ⟨rfl, fun _ h' => by simp [go_sem]⟩ ?_
                    refine wpMix_q (v := .map (some mb)) rfl rfl (fun _ _ _ h => h) HZ.out.2 ⟨rfl, fun _ h' => by have a1 := h'.2.2.2.1.cell 1; simp at a1; simp [go_sem, a1]⟩ ?_
                    simp only [List.getElem_toArray, List.getElem_cons_succ, List.getElem_cons_zero, Act.put, List.setIfInBounds_toArray, List.set_cons_succ, List.set_cons_zero]
                    refine wpMix_q (v := .int .i64 i) rfl rfl (fun _ _ _ h => h) HZ.out.2 ⟨rfl, fun _ h' => by simp [go_sem]⟩ ?_
                    refine wpMix_q (v := vP ((x' : Int), (y' : Int), (z' : Int))) rfl rfl (fun _ _ _ h => h) HZ.out.2 ⟨rfl, (fun _ h' => by obtain ⟨a0, a1, a2⟩ := h'.2.1.three; simp [go_sem, a0, a1, a2])⟩ ?_
                    refine wpMix_q (v := vF ((i : Int), (x' : Int), (y' : Int), (z' : Int))) rfl rfl (fun _ _ _ h => h) HZ.out.2 ⟨rfl, fun _ h' => by simp [go_sem]⟩ ?_
                    refine wpMix_q (v := (.bool ee)) rfl rfl (fun _ _ _ h => h) HZ.out.2 ⟨rfl, fun _ h' => by have hl := h'.2.2.2.2.1.look ((i : Int), (x' : Int), (y' : Int), (z' : Int)) hfe; rw [hee] at hl; simp [execOp, go_sem, hl]⟩ ?_
                    simp only [List.getElem_toArray, List.getElem_cons_succ, List.getElem_cons_zero, Act.put, List.setIfInBounds_toArray, List.set_cons_succ, List.set_cons_zero]
                    clear hee hfe
                    have hat1 := fun W hc => at7c_any w.heap.size s x y z hs257 hxs hys hzs W hc
                    have hat2 := fun W hc => at7c_any w.heap.size s x' y' z' hs257 hx' hy' hz' W hc
                    rw [← HK.out.1] at hat1
                    rw [← HM.out.2.2.2.1] at hat2
                    have HA1 := hide hat1
                    have HA2 := hide hat2
                    clear hat1 hat2
                    have j2 : (kk : Int) < (m : Int) := by omega
                    have j3 : (k : Int) < (m : Int) := by omega
                    refine wpMix_n rfl rfl ?_
                    go_wp2_with fail
                    refine (HA1.out Z.drew (HZ.out.2.2.2.1.cell 0)).mono ?_
                    rintro r w6 ⟨rfl, hL6⟩
                    have hB6 : Below Z.heap.size Z w6 := (Below.refl _ Z).drew.trans hL6.below
                    have H6 := hide (And.intro hB6 (HZ.out.1.1 w6 hB6))
                    clear hL6 hB6
                    go_wp2_with fail
                    refine ⟨fun _ => H6.out.2, ?_⟩
                    refine wpMix_n rfl rfl ?_
                    go_wp2_with fail
                    refine (HA2.out w6 (H6.out.2.2.2.1.cell 0)).mono ?_
                    rintro r w7 ⟨rfl, hL7⟩
                    have hB7 : Below Z.heap.size Z w7 := H6.out.1.trans (hL7.below.mono H6.out.1.size)
                    have H7 := hide (And.intro hB7 (HZ.out.1.1 w7 hB7))
                    clear hL7 hB7
                    have r0 := RowB.cell H7.out.2.2.2.2.2.2 HM.out.2.1
                    go_wp2_with fail
                    refine ⟨fun _ => H7.out.2, ?_⟩
                    refine wpMix_n rfl rfl ?_
                    go_wp2_with fail
                    refine ⟨fun _ => H7.out.2, ?_⟩
                    refine wpMix_n rfl rfl ?_
                    go_wp2_with fail
                    refine ⟨fun _ => H7.out.2, ?_⟩
                    refine wpMix_n rfl rfl ?_
                    go_wp2_with fail
                    refine ⟨fun _ => H7.out.2, ?_⟩
                    refine wpMix_n rfl rfl ?_
                    go_wp2_with fail
                    refine ⟨fun _ => H7.out.2, ?_⟩
                    clear r0
                    have hkR : ∃ b0, (wayL E s m k)[k]? = some b0 := ⟨_, wayL_get np4⟩
                    obtain ⟨b0, hb0⟩ := hkR
                    have r1 := RowB.cell H7.out.2.2.2.2.2.2 hb0
                    have r2 := Blk.frozen H7.out.2.2.2.2.2.2 k
                    have r3 := Blk.lt H7.out.2.2.2.2.2.2
                    refine wpMix_n rfl rfl ?_
                    go_wp2_with fail
                    have hbe : (!bb == ee) = (bb != ee) := by cases bb <;> cases ee <;> rfl
                    rw [hbe]
                    have hrT := RowB.set H7.out.2.2.2.2.2.2 k (bb != ee)
                    rw [show (wayL E s m k).set k (bb != ee) = wayL E s m ((z * s + y) * s + (x + 1)) by rw [HM.out.2.2.1, HK.out.1]; rfl] at hrT
                    have hgT := H7.out.2.2.2.1.far (p := ⟨w.heap.size + 1, k, none⟩) (by dsimp only; omega) (.bool (bb != ee))
                    have hBT := (HZ.out.1.2.trans (H7.out.1.mono HZ.out.1.2.size)).setCell (p := ⟨w.heap.size + 1, k, none⟩) (by dsimp only; omega) (.bool (bb != ee))
                    have hzT : w.heap.size + 2 ≤ (w7.setCell ⟨w.heap.size + 1, k, none⟩ (.bool (bb != ee))).heap.size := by
                      have h1 := H7.out.2.1.lt
                      have h2 := HK.out.2.2.2.2
                      simp [World.setCell]
                      omega
                    obtain ⟨T, hT⟩ : ∃ T, T = w7.setCell ⟨w.heap.size + 1, k, none⟩ (.bool (bb != ee)) := ⟨_, rfl⟩
                    rw [← hT] at hrT hgT hBT hzT ⊢
                    have HT := hide (And.intro hgT (And.intro hrT (And.intro hBT hzT)))
                    clear hrT hgT hBT hzT hT r1 r2 r3 hb0
                    refine ⟨fun h => absurd (h.symm.trans (show _ = false by kernel_rfl)) (by simp), ?_⟩
                    refine wpMix_nil ?_
                    go_wp2
                    go_roundw
                    case rel => exact ⟨x + 1, by omega, by go_num, HT.out⟩
                    case measure => simp [intOf]; omega
                  · have hc0 : cmpN x y z i = 0 := by omega
                    rw [hc0] at hci
                    have HH := hide (And.intro h0 hc0)
                    clear h0 hc0 hc
                    go_wp2
                    go_roundw
                    case rel => exact ⟨i + 1, by omega, by go_num, trivial, fun j hj => by
                      rcases Nat.lt_or_ge j i with h | h
                      · exact HH.out.1 j h
                      · rw [show j = i by omega]; exact HH.out.2⟩
                    case measure => simp [intOf]; omega
                · have i4 : ¬ (i : Int) < 3 := by omega
                  have hie : i = 3 := by omega
                  subst hie
                  obtain ⟨ex, ey, ez⟩ := cmpN_all h0
                  have hskip : wayL E s m k = wayL E s m (k + 1) := wayL_skip (by rw [HK.out.2.1, HK.out.2.2.1, HK.out.2.2.2.1, ex, ey, ez]; rfl)
                  have hrY := HY.out.2.2.1
                  rw [hskip, HK.out.1] at hrY
                  have hzY := HY.out.2.2.2.2.2.2
                  have HE := hide (And.intro hrY (show w.heap.size + 2 ≤ Y.heap.size by omega))
                  clear hrY hskip ex ey ez h0 hzY
                  go_wp2
                  go_roundw
                  case rel => exact ⟨x + 1, by omega, by go_num, HY.out.2.1, HE.out.1, HY.out.2.2.2.2.1, HE.out.2⟩
                  case measure => simp [intOf]; omega
            · have i3 : ¬ (x : Int) < (s : Int) := by omega
              have hxe : x = s := by omega
              rw [hxe, ← Nat.succ_mul, Nat.succ_eq_add_one, Nat.add_assoc] at hr
              have HE := hide (And.intro hg (And.intro hr (And.intro hB hzw)))
              clear hg hr hB hzw hxe
              go_wp2
              go_roundw
              case rel => exact ⟨y + 1, by omega, by go_num, HE.out⟩
              case measure => simp [intOf]; omega
        · have i2 : ¬ (y : Int) < (s : Int) := by omega
          have hye : y = s := by omega
          rw [hye, ← Nat.succ_mul, Nat.succ_eq_add_one] at hr
          have HE := hide (And.intro hg (And.intro hr (And.intro hB hzw)))
          clear hg hr hB hzw hye
          go_wp2
          go_roundw
          case rel => exact ⟨z + 1, by omega, by go_num, HE.out⟩
          case measure => simp [intOf]; omega
    · have i1 : ¬ (z : Int) < (s : Int) := by omega
      have hze : z = s := by omega
      rw [hze, ← HN.out.2.1, HN.out.1, strL_zero] at hr
      have HV := hide (And.intro hg (And.intro hr (And.intro hB hzw)))
      have hsn := HN.out.1
      have hs0 : ¬ (s : Int) = 0 := by omega
      have hs0n : ¬ s = 0 := by omega
      have hs0b : ((s : Int) == 0) = false := by rw [beq_eq_false_iff_ne]; exact hs0
      have HSn := hide hsn
      clear hg hr hB hzw hze c0 hsn
      go_wp2_with fail
      go_loopw [78] (fun kv wr => ∃ k : Nat, k ≤ m ∧ kv = .int .i64 k ∧ Blk wr w.heap.size 3 #[.int .i64 s] ∧ RowB wr (w.heap.size + 1) (strL E n m k) ∧ Below w.heap.size w wr ∧ w.heap.size + 2 ≤ wr.heap.size) (fun kv _ => m - (intOf kv).toNat)
      case atStart => exact ⟨0, by omega, rfl, HV.out⟩
      case round =>
        obtain ⟨k, hk, rfl, hg, hr, hB, hzw⟩ := hrel
        obtain ⟨V, rfl⟩ : ∃ V, V = wr := ⟨_, rfl⟩
        by_cases hkm : k < m
        · have j1 : (k : Int) < (m : Int) := by omega
          have c0 : V.cell? ⟨w.heap.size, 0, none⟩ = some (.int .i64 s) := hg.cell 0
          obtain ⟨kx, hkx⟩ : ∃ a, a = k % s := ⟨_, rfl⟩
          obtain ⟨kq, hkq⟩ : ∃ a, a = k / s := ⟨_, rfl⟩
          obtain ⟨ky, hky⟩ : ∃ a, a = kq % s := ⟨_, rfl⟩
          obtain ⟨kz, hkz⟩ : ∃ a, a = kq / s := ⟨_, rfl⟩
          have t0 : Int.tmod (k : Int) (s : Int) = (kx : Int) := by rw [Int.tmod_eq_emod_of_nonneg (by omega), hkx]; rfl
          have t1 : Int.tdiv (k : Int) (s : Int) = (kq : Int) := by rw [Int.tdiv_eq_ediv_of_nonneg (by omega), hkq]; rfl
          have t2 : Int.tmod (kq : Int) (s : Int) = (ky : Int) := by rw [Int.tmod_eq_emod_of_nonneg (by omega), hky]; rfl
          have t3 : Int.tdiv (kq : Int) (s : Int) = (kz : Int) := by rw [Int.tdiv_eq_ediv_of_nonneg (by omega), hkz]; rfl
          have hs0' : 0 < s := by omega
          have bx : kx < s := by rw [hkx]; exact Nat.mod_lt _ hs0'
          have bq : kq ≤ k := by rw [hkq]; exact Nat.div_le_self _ _
          have by' : ky < s := by rw [hky]; exact Nat.mod_lt _ hs0'
          have bz : kz ≤ kq := by rw [hkz]; exact Nat.div_le_self _ _
          have bzs : kz < s := by rw [hkz, hkq]; exact (Nat.div_lt_iff_lt_mul hs0').2 ((Nat.div_lt_iff_lt_mul hs0').2 (by rw [← HN.out.2.1]; exact hkm))
          have u0 : IntKind.i64.wrap (kx : Int) = (kx : Int) := IntWalk.i64_in _ (by omega)
          have u1 : IntKind.i64.wrap (kq : Int) = (kq : Int) := IntWalk.i64_in _ (by omega)
          have u2 : IntKind.i64.wrap (ky : Int) = (ky : Int) := IntWalk.i64_in _ (by omega)
          have u3 : IntKind.i64.wrap (kz : Int) = (kz : Int) := IntWalk.i64_in _ (by omega)
          have hbdv : bdV n (k % (n + 1)) (k / (n + 1) % (n + 1)) (k / (n + 1) / (n + 1)) = bdV n kx ky kz := by rw [← HSn.out, hkx, hky, hkz, hkq]
          have HK := hide (And.intro hg (And.intro hr (And.intro hB (And.intro hzw hbdv))))
          clear hg hr hB hzw hbdv hkx hkq hky hkz
          go_upto_region 27 with fail
          have hq1 : ∀ o, (V.alloc o).drew.cell? ⟨w.heap.size, 0, none⟩ = some (.int .i64 s) := fun o => (((Below.refl V.heap.size V).alloc (Nat.le_refl _) o).drew.cell (p := ⟨w.heap.size, 0, none⟩) HK.out.1.lt).trans c0
          have hq0 : V.drew.cell? ⟨w.heap.size, 0, none⟩ = some (.int .i64 s) := c0
          refine wp_region_mix (fun W => W.cell? ⟨w.heap.size, 0, none⟩ = some (.int .i64 s)) [0, 1, 2, 3, 4, 5, 6, 7, 8, 9, 10, 11, 12, 13] [0, 1, 2, 3, 4, 5, 6, 7, 8, 9, 10, 11, 12, 13, 14, 15] mixed_ok (by kernel_rfl) ?_
          refine wpMix_q (v := .int .i64 k) rfl rfl (fun _ _ _ h => h) hq0 ⟨rfl, fun _ _ => by simp [go_sem]⟩ ?_
          refine wpMix_q (v := .int .i64 s) rfl rfl (fun _ _ _ h => h) hq0 ⟨rfl, fun _ h' => by simp [go_sem, h']⟩ ?_
          refine wpMix_q (v := .int .i64 kx) rfl rfl (fun _ _ _ h => h) hq0 ⟨rfl, fun _ _ => by simp [go_sem, t0, hs0n]⟩ ?_
          refine wpMix_q (v := .int .i64 k) rfl rfl (fun _ _ _ h => h) hq0 ⟨rfl, fun _ _ => by simp [go_sem]⟩ ?_
          refine wpMix_q (v := .int .i64 s) rfl rfl (fun _ _ _ h => h) hq0 ⟨rfl, fun _ h' => by simp [go_sem, h']⟩ ?_
          simp only [List.getElem_toArray, List.getElem_cons_succ, List.getElem_cons_zero, Act.put, List.setIfInBounds_toArray, List.set_cons_succ, List.set_cons_zero]
          refine wpMix_q (v := .int .i64 kq) rfl rfl (fun _ _ _ h => h) hq0 ⟨rfl, fun _ _ => by simp [go_sem, t1, hs0n, u1]⟩ ?_
          refine wpMix_q (v := .int .i64 s) rfl rfl (fun _ _ _ h => h) hq0 ⟨rfl, fun _ h' => by simp [go_sem, h']⟩ ?_
          refine wpMix_q (v := .int .i64 ky) rfl rfl (fun _ _ _ h => h) hq0 ⟨rfl, fun _ _ => by simp [go_sem, t2, hs0n]⟩ ?_
          refine wpMix_q (v := .int .i64 k) rfl rfl (fun _ _ _ h => h) hq0 ⟨rfl, fun _ _ => by simp [go_sem]⟩ ?_
          refine wpMix_q (v := .int .i64 s) rfl rfl (fun _ _ _ h => h) hq0 ⟨rfl, fun _ h' => by simp [go_sem, h']⟩ ?_
          simp only [List.getElem_toArray, List.getElem_cons_succ, List.getElem_cons_zero, Act.put, List.setIfInBounds_toArray, List.set_cons_succ, List.set_cons_zero]
          refine wpMix_q (v := .int .i64 kq) rfl rfl (fun _ _ _ h => h) hq0 ⟨rfl, fun _ _ => by simp [go_sem, t1, hs0n, u1]⟩ ?_
          refine wpMix_q (v := .int .i64 s) rfl rfl (fun _ _ _ h => h) hq0 ⟨rfl, fun _ h' => by simp [go_sem, h']⟩ ?_
          refine wpMix_q (v := .int .i64 kz) rfl rfl (fun _ _ _ h => h) hq0 ⟨rfl, fun _ _ => by simp [go_sem, t3, hs0n, u3]⟩ ?_
          refine wpMix_q (v := .agg #[.int .i64 kx, .int .i64 ky, .int .i64 kz]) rfl rfl (fun _ _ _ h => h) hq0 ⟨rfl, fun _ _ => by simp [go_sem]⟩ ?_
          refine wpMix_n rfl rfl ?_
          go_wp2_with fail
          refine ⟨fun _ => hq1 _, ?_⟩
          refine wpMix_n rfl rfl ?_
          go_wp2_with fail
          refine ⟨fun h => absurd (h.symm.trans (show _ = false by kernel_rfl)) (by simp), ?_⟩
          refine wpMix_nil ?_
          go_upto_region 28 with fail
          obtain ⟨T, hT⟩ : ∃ T, T = (V.alloc (.cells #[.int .i64 kx, .int .i64 ky, .int .i64 kz] 68)).drew := ⟨_, rfl⟩
          rw [← hT]
          have hBT : Below V.heap.size V T := by rw [hT]; exact ((Below.refl _ V).alloc (Nat.le_refl _) _).drew
          have hpT : Blk T V.heap.size 68 #[.int .i64 kx, .int .i64 ky, .int .i64 kz] := by rw [hT]; exact Blk.new V _ _
          have hgT := HK.out.1.below hBT HK.out.1.lt
          have hrT := HK.out.2.1.below hBT (Blk.lt HK.out.2.1)
          have hSB := HN.out.2.2.box.below (HK.out.2.2.1.trans (hBT.mono HK.out.2.2.1.size)) hlb
          have hBwT := HK.out.2.2.1.trans (hBT.mono HK.out.2.2.1.size)
          obtain ⟨p0, p1, p2⟩ := hpT.three
          have b0 : T.cell? ⟨bs, 0, none⟩ = some (.int .i64 n) := hSB.cell 0
          obtain ⟨mn, hmn⟩ : ∃ a, a = min kx (min ky kz) := ⟨_, rfl⟩
          obtain ⟨mx, hmx⟩ : ∃ a, a = max kx (max ky kz) := ⟨_, rfl⟩
          have hMn : ∀ q, Calls Try.prog 49 #[.slice (some ⟨V.heap.size, 0, none⟩) 3 3] (T.drewN q) fun e w' => e = .returned (.int .i64 mn) ∧ w' = T.drewN q := fun q => by
            refine (min7_any V.heap.size 3 kx ky kz (T.drewN q) ((hpT.drewN q).cell 0) ((hpT.drewN q).cell 1) ((hpT.drewN q).cell 2)).mono ?_
            rintro e w' ⟨m', he, hm', hw⟩
            exact ⟨by rw [he, show m' = (mn : Int) by omega], hw⟩
          have hMx : ∀ q, Calls Try.prog 50 #[.slice (some ⟨V.heap.size, 0, none⟩) 3 3] (T.drewN q) fun e w' => e = .returned (.int .i64 mx) ∧ w' = T.drewN q := fun q => by
            refine (max7_any V.heap.size 3 kx ky kz (T.drewN q) ((hpT.drewN q).cell 0) ((hpT.drewN q).cell 1) ((hpT.drewN q).cell 2)).mono ?_
            rintro e w' ⟨m', he, hm', hw⟩
            exact ⟨by rw [he, show m' = (mx : Int) by omega], hw⟩
          have HMn := hide hMn
          have HMx := hide hMx
          obtain ⟨b9, hb9⟩ : ∃ b, (strL E n m k)[k]? = some b := ⟨_, strL_get hkm⟩
          have r1 := RowB.cell hrT hb9
          have r2 := Blk.frozen hrT k
          have r3 := Blk.lt hrT
          have hzT : w.heap.size + 2 ≤ T.heap.size := Nat.le_trans HK.out.2.2.2.1 hBT.size
          have HT := hide (And.intro hpT (And.intro hgT (And.intro hrT (And.intro hBwT hzT))))
          have HMM := hide (And.intro hmn hmx)
          clear hT hBT hpT hgT hrT hSB hBwT hMn hMx hb9 hmn hmx hq0 hq1 c0 t0 t1 t2 t3 u0 u1 u2 u3
          by_cases e0 : mn = 0
          · have e0' : ((mn : Int) == 0) = true := by rw [e0]; rfl
            have HE0 := hide e0
            clear e0
            have hbd : bdV n kx ky kz = true := by unfold bdV; refine decide_eq_true ?_; have := HE0.out; have := HMM.out.1; omega
            have hsd := strL_bd (E := E) hkm (HK.out.2.2.2.2.trans hbd)
            have HSd := hide hsd
            clear hbd hsd
            go_quiet ((first | (go_at_call 49; exact Calls.quiet_of_same (unhide HMn _)) | (go_at_call 50; exact Calls.quiet_of_same (unhide HMx _))))
            go_wp2
            go_roundw
            case rel =>
              refine ⟨k + 1, by omega, by go_num, (HT.out.2.1.drewN nq).far (by dsimp only; omega) _, ?_, (below_drewN HT.out.2.2.2.1 nq).setCell (by dsimp only; omega) _, by simp [World.setCell]; exact HT.out.2.2.2.2⟩
              rw [← HSd.out]
              exact RowB.set (w := T.drewN nq) HT.out.2.2.1 k false
            case measure => simp [intOf]; omega
          · have e0' : ((mn : Int) == 0) = false := by rw [beq_eq_false_iff_ne]; omega
            by_cases e1 : mx = n
            · have e1' : ((mx : Int) == (n : Int)) = true := by rw [e1]; simp
              have HE0 := hide (And.intro e0 e1)
              clear e0 e1
              have hbd : bdV n kx ky kz = true := by unfold bdV; refine decide_eq_true ?_; have := HE0.out.2; have := HMM.out.2; omega
              have hsd := strL_bd (E := E) hkm (HK.out.2.2.2.2.trans hbd)
              have HSd := hide hsd
              clear hbd hsd
              go_quiet ((first | (go_at_call 49; exact Calls.quiet_of_same (unhide HMn _)) | (go_at_call 50; exact Calls.quiet_of_same (unhide HMx _))))
              go_wp2
              go_roundw
              case rel =>
                refine ⟨k + 1, by omega, by go_num, (HT.out.2.1.drewN nq).far (by dsimp only; omega) _, ?_, (below_drewN HT.out.2.2.2.1 nq).setCell (by dsimp only; omega) _, by simp [World.setCell]; exact HT.out.2.2.2.2⟩
                rw [← HSd.out]
                exact RowB.set (w := T.drewN nq) HT.out.2.2.1 k false
              case measure => simp [intOf]; omega
            · have e1' : ((mx : Int) == (n : Int)) = false := by rw [beq_eq_false_iff_ne]; omega
              have hbd : bdV n kx ky kz = false := by unfold bdV; refine decide_eq_false ?_; have := HMM.out; have := HSn.out; omega
              have hsd := strL_in (E := E) (m := m) (HK.out.2.2.2.2.trans hbd)
              have HSd := hide hsd
              have HE0 := hide (And.intro e0 e1)
              clear hbd hsd e0 e1
              go_quiet ((first | (go_at_call 49; exact Calls.quiet_of_same (unhide HMn _)) | (go_at_call 50; exact Calls.quiet_of_same (unhide HMx _))))
              go_wp2
              go_roundw
              case rel => exact ⟨k + 1, by omega, by go_num, HT.out.2.1.drewN nq, by rw [← HSd.out]; exact HT.out.2.2.1, below_drewN HT.out.2.2.2.1 nq, HT.out.2.2.2.2⟩
              case measure => simp [intOf]; omega
        · have j1 : ¬ (k : Int) < (m : Int) := by omega
          have hke : k = m := by omega
          rw [hke] at hr
          have HE := hide (And.intro hr (And.intro hB True.intro))
          clear hg hr hB hzw hke
          go_wp2
          go_ret
          exact ⟨_, rfl, HE.out.1, by omega, HE.out.2.1⟩
end Go.Proofs.Ytdpgohpbannfnaa
/- ref01.Mod, law07.level, ref07.Edge. -/
namespace Go.Proofs.Ytdpgohpbannfnaa
open Go.RowKit Go.Sort
def modC (n m : Int) : Int := (n.tmod m + m) % m
theorem tmod_bound (n m : Int) (hm : 0 < m) : -m < n.tmod m ∧ n.tmod m < m := by
  have h1 := Int.tmod_lt_of_pos n hm
  have h2 : -n.tmod m < m := by rw [← Int.neg_tmod]; exact Int.tmod_lt_of_pos _ hm
  omega
theorem modC_bound (n m : Int) (hm : 0 < m) : 0 ≤ modC n m ∧ modC n m < m := by
  have h := tmod_bound n m hm
  exact ⟨Int.emod_nonneg _ (by omega), Int.emod_lt_of_pos _ hm⟩
theorem mod_any (n m : Int) (hm : 0 < m) (hm2 : m ≤ 1048576) (w : World) :
    Calls Try.prog 21 #[.int .i64 n, .int .i64 m] w fun e w' => e = .returned (.int .i64 (modC n m)) ∧ w' = w := by
  have hb := tmod_bound n m hm
  have hw1 : wrap64 (n.tmod m) = n.tmod m := by unfold wrap64; omega
  have hw2 : wrap64 (n.tmod m + m) = n.tmod m + m := by unfold wrap64; omega
  have hb3 := modC_bound n m hm
  have hw3 : wrap64 ((n.tmod m + m) % m) = (n.tmod m + m) % m := by unfold modC at hb3; unfold wrap64; omega
  have hz : (m == 0) = false := by simp; omega
  have hz2 : ¬ m = 0 := by omega
  have hz3 : ¬ m = -1 := by omega
  go_enter Try.func21, Try.ntmps21
  go_wp2
  go_ret
  exact ⟨rfl, rfl⟩
/-- The level that a number gives. -/
def levP (n : Int) : Nat := 1 + (modC n 3).toNat
theorem levP_bound (n : Int) : 1 ≤ levP n ∧ levP n ≤ 3 := by
  have := modC_bound n 3 (by omega)
  unfold levP
  omega
theorem levP_eq (n : Int) : 1 + modC n 3 = (levP n : Int) := by
  have := modC_bound n 3 (by omega)
  unfold levP
  omega
theorem level7_any (n : Int) (w : World) : Calls Try.prog 14 #[.int .i64 n] w fun e w' => e = .returned (.int .i64 (levP n : Nat)) ∧ w' = w := by
  have hm := modC_bound n 3 (by omega)
  rw [← levP_eq]
  go_enter Try.func14, Try.ntmps14
  go_wp2_with fail
  refine (mod_any n 3 (by omega) (by omega) w).mono ?_
  rintro e w1 ⟨rfl, rfl⟩
  go_wp2
  go_ret
  exact ⟨rfl, rfl⟩
/-- An edge as numbers make it. -/
def madeE (e : EF) : Prop := (0 ≤ e.1 ∧ e.1 < 3) ∧ (0 ≤ e.2.1 ∧ e.2.1 < 9) ∧ (0 ≤ e.2.2.1 ∧ e.2.2.1 < 9) ∧ (0 ≤ e.2.2.2 ∧ e.2.2.2 < 9)
theorem tdiv_fits {n s : Int} (hn : fits n) (hs : 3 ≤ s) : fits (n.tdiv s) := by
  have h1 := Int.natAbs_tdiv n s
  have h2 : n.natAbs / s.natAbs ≤ n.natAbs / 3 := Nat.div_le_div_left (by omega) (by omega)
  have h3 : (n.natAbs).div s.natAbs = n.natAbs / s.natAbs := rfl
  unfold fits at *
  omega
set_option maxRecDepth 100000 in
set_option maxHeartbeats 8000000 in
theorem edge7_any (n L : Int) (hn : fits n) (w : World) : Calls Try.prog 28 #[.int .i64 n, .int .i64 L] w fun e w' => ∃ ed : EF, madeE ed ∧ e = .returned (vF ed) ∧ Below w.heap.size w w' := by
  have hlb := modC_bound L 3 (by omega)
  obtain ⟨lv, hlv⟩ : ∃ x, x = modC L 3 := ⟨_, rfl⟩
  have hmL := mod_any L 3 (by omega) (by omega)
  rw [← hlv] at hlb hmL
  have hsd := side7_any (1 + lv)
  have hsp : sideP (1 + lv) ≤ 9 ∧ 3 ≤ sideP (1 + lv) := by
    have hc : lv = 0 ∨ lv = 1 ∨ lv = 2 := by omega
    rcases hc with rfl | rfl | rfl <;> exact ⟨by decide, by decide⟩
  obtain ⟨s, hs⟩ : ∃ s, s = sideP (1 + lv) := ⟨_, rfl⟩
  rw [← hs] at hsd hsp
  have hs0 : (0 : Int) < (s : Int) := by omega
  obtain ⟨q1, hq1⟩ : ∃ q, q = n.tdiv 3 := ⟨_, rfl⟩
  obtain ⟨q2, hq2⟩ : ∃ q, q = q1.tdiv s := ⟨_, rfl⟩
  obtain ⟨q3, hq3⟩ : ∃ q, q = q2.tdiv s := ⟨_, rfl⟩
  have f1 : fits q1 := by rw [hq1]; exact tdiv_fits hn (by omega)
  have f2 : fits q2 := by rw [hq2]; exact tdiv_fits f1 (by omega)
  have f3 : fits q3 := by rw [hq3]; exact tdiv_fits f2 (by omega)
  have u1 : IntKind.i64.wrap q1 = q1 := IntWalk.i64_in _ (by unfold fits at f1; omega)
  have u2 : IntKind.i64.wrap q2 = q2 := IntWalk.i64_in _ (by unfold fits at f2; omega)
  have u3 : IntKind.i64.wrap q3 = q3 := IntWalk.i64_in _ (by unfold fits at f3; omega)
  have v1 : n.tdiv 3 = q1 := hq1.symm
  have v2 : q1.tdiv s = q2 := hq2.symm
  have v3 : q2.tdiv s = q3 := hq3.symm
  have m0 := mod_any n 3 (by omega) (by omega)
  have m1 := mod_any q1 s hs0 (by omega)
  have m2 := mod_any q2 s hs0 (by omega)
  have m3 := mod_any q3 s hs0 (by omega)
  have b0 := modC_bound n 3 (by omega)
  have b1 := modC_bound q1 s hs0
  have b2 := modC_bound q2 s hs0
  have b3 := modC_bound q3 s hs0
  obtain ⟨x0, hx0⟩ : ∃ x, x = modC n 3 := ⟨_, rfl⟩
  obtain ⟨x1, hx1⟩ : ∃ x, x = modC q1 s := ⟨_, rfl⟩
  obtain ⟨x2, hx2⟩ : ∃ x, x = modC q2 s := ⟨_, rfl⟩
  obtain ⟨x3, hx3⟩ : ∃ x, x = modC q3 s := ⟨_, rfl⟩
  rw [← hx0] at m0 b0
  rw [← hx1] at m1 b1
  rw [← hx2] at m2 b2
  rw [← hx3] at m3 b3
  have hz0 : ((s : Int) == 0) = false := by simp; omega
  have hz1 : ¬ (s : Int) = 0 := by omega
  have hz2 : ¬ (s : Int) = -1 := by omega
  have hz3 : ¬ s = 0 := by omega
  have HM := hide (And.intro hmL (And.intro hsd (And.intro m0 (And.intro m1 (And.intro m2 m3)))))
  have HB := hide (And.intro b0 (And.intro b1 (And.intro b2 b3)))
  have HS := hide hsp
  clear hmL hsd m0 m1 m2 m3 b0 b1 b2 b3 hx0 hx1 hx2 hx3 hq1 hq2 hq3 hs hlv f1 f2 f3
  go_enter Try.func28, Try.ntmps28
  go_wp2_with fail
  refine (HM.out.1 _).mono ?_
  rintro e w1 ⟨rfl, rfl⟩
  go_wp2_with fail
  refine (HM.out.2.1 _).mono ?_
  rintro e w1 ⟨rfl, rfl⟩
  go_upto_region 2 with fail
  go_still_tail 21, (by kernel_rfl)
  still_call (HM.out.2.2.1 _)
  repeat still_step
  still_call (HM.out.2.2.2.1 _)
  repeat still_step
  still_call (HM.out.2.2.2.2.1 _)
  repeat still_step
  still_call (HM.out.2.2.2.2.2 _)
  repeat still_step
  refine wpStill_nil ?_
  obtain ⟨X, hX⟩ : ∃ X, X = w.alloc (.cells #[.int .i64 0, .int .i64 0, .int .i64 0, .int .i64 0] 44) := ⟨_, rfl⟩
  have hBX : Below w.heap.size w X := by rw [hX]; exact (Below.refl _ w).alloc (Nat.le_refl _) _
  have hbX : Blk X w.heap.size 44 #[.int .i64 0, .int .i64 0, .int .i64 0, .int .i64 0] := by rw [hX]; exact Blk.new _ _ _
  rw [← hX]
  have z0 := hbX.frozen 0
  have z1 := hbX.frozen 1
  have z2 := hbX.frozen 2
  have z3 := hbX.frozen 3
  obtain ⟨y0, y1, y2, y3⟩ := hbX.four
  have HX := hide (And.intro hBX hbX)
  clear hX hBX hbX
  change wpList _ _ _ _ _ X.drew
  go_wp2
  refine ret_at (v := vF (x0, x1, x2, x3)) (fun W => Blk W w.heap.size 44 #[.int .i64 x0, .int .i64 x1, .int .i64 x2, .int .i64 x3]) ?_ (fun W h => ?_) rfl ⟨(x0, x1, x2, x3), ?_, rfl, ?_⟩
  · exact (((HX.out.2.set_ 0 _).set_ 1 _).set_ 2 _).set_ 3 _
  · obtain ⟨a0, a1, a2, a3⟩ := h.four
    simp [results, Try.results28, go_sem, a0, a1, a2, a3]
  · have h1 := HB.out
    have h2 := HS.out
    unfold madeE
    dsimp only
    omega
  · exact ((((HX.out.1.setCell (Nat.le_refl _) _).setCell (Nat.le_refl _) _).setCell (Nat.le_refl _) _).setCell (Nat.le_refl _) _).drew
end Go.Proofs.Ytdpgohpbannfnaa
