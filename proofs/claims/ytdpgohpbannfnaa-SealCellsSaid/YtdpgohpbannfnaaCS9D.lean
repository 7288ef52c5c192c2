/- SealCells: the walk. -/
import Derived.Test.YtdpgohpbannfnaaCB2
import Derived.Test.YtdpgohpbannfnaaCS9A
namespace Go.Proofs.Ytdpgohpbannfnaa
open Go.RowKit Go.Sort Go.WideMaps Go.Maps
/-! Rows of numbers. -/
def RowN (w : World) (g : Nat) (F : List Nat) : Prop := Blk w g 3 (F.map fun k : Nat => Value.int .i64 (k : Int)).toArray
theorem RowN.cell {w : World} {g i c : Nat} {F : List Nat} (h : RowN w g F) (hi : F[i]? = some c) : w.cell? ⟨g, i, none⟩ = some (.int .i64 (c : Int)) := by
  have := Blk.cell h i
  rw [this]
  simp [hi]
theorem RowN.set {w : World} {g : Nat} {F : List Nat} (h : RowN w g F) (i c : Nat) : RowN (w.setCell ⟨g, i, none⟩ (.int .i64 (c : Int))) g (F.set i c) := by
  have := Blk.set_ h i (.int .i64 (c : Int))
  unfold RowN
  rw [List.map_set]
  simpa using this
theorem infoN7 : (Try.prog.info? 3).map (fun i => (i.zero, i.size, i.bytes)) = some (some (.int .i64 0), 1, 8) := by kernel_rfl
theorem mk_n7 (n : Nat) (hn : n ≤ 100000000) (W : World) : (Instr.makeSlice 22 (.int .i64 (n : Int)) (.int .i64 (n : Int))).run Try.prog W = .ok (.slice (some ⟨W.heap.size, 0, none⟩) n n) (W.alloc (.cells ((List.replicate n 0).map fun k : Nat => Value.int .i64 (k : Int)).toArray 3)) := by
  obtain ⟨i, hi, hz, hs, hb⟩ := info_parts infoN7
  have h := run_make (P := Try.prog) W 22 3 i (.int .i64 0) Try.underlying22 hi hz .i64 .i64 n n (by omega) (by omega) (by rw [hb]; omega) (by omega)
  rw [h, hs]
  have e : madeCells (Value.int .i64 0).cells ((n : Int).toNat * 1) = ((List.replicate n 0).map fun k : Nat => Value.int .i64 (k : Int)).toArray := by
    refine Array.ext (by simp [size_madeCells]) fun k h1 h2 => ?_
    simp [madeCells, Value.cells, Nat.mod_one]
  rw [e, Int.toNat_natCast]
theorem lev_nums3 {L : Nat} (h1 : 1 ≤ L) (h3 : L ≤ 3) : ∃ n s q m : Nat, n = 2 ^ L ∧ s = n + 1 ∧ m = s * s * s ∧ (3 ≤ s ∧ s ≤ 9 ∧ m ≤ 729) ∧ wrap64 ((s : Int) * (s : Int)) = (q : Int) ∧ wrap64 ((q : Int) * (s : Int)) = (m : Int) := by
  have hc : L = 1 ∨ L = 2 ∨ L = 3 := by omega
  rcases hc with rfl | rfl | rfl
  · exact ⟨2, 3, 9, 27, rfl, rfl, rfl, by omega, mulW7 (by omega) (by omega), mulW7 (by omega) (by omega)⟩
  · exact ⟨4, 5, 25, 125, rfl, rfl, rfl, by omega, mulW7 (by omega) (by omega), mulW7 (by omega) (by omega)⟩
  · exact ⟨8, 9, 81, 729, rfl, rfl, rfl, by omega, mulW7 (by omega) (by omega), mulW7 (by omega) (by omega)⟩
theorem addW7 {a b : Nat} (ha : a ≤ 2000) (hb : b ≤ 2000) : wrap64 ((a : Int) + (b : Int)) = ((a + b : Nat) : Int) := by unfold wrap64; omega
/-- The index of a cell, step by step. -/
theorem idx_nums {s : Nat} (hs : s ≤ 9) {x y z : Nat} (hx : x < s) (hy : y < s) (hz : z < s) : ∃ p1 p2 p3 j : Nat, wrap64 ((z : Int) * (s : Int)) = (p1 : Int) ∧ wrap64 ((p1 : Int) + (y : Int)) = (p2 : Int) ∧ wrap64 ((p2 : Int) * (s : Int)) = (p3 : Int) ∧ wrap64 ((p3 : Int) + (x : Int)) = (j : Int) ∧ j = vtxN s ((x : Int), (y : Int), (z : Int)) ∧ j < s * s * s := by
  have h := (num_parts hx hy hz).2.2.2
  have h1 : z * s ≤ 81 := Nat.le_trans (Nat.mul_le_mul (by omega : z ≤ 9) hs) (by omega)
  have h2 : (z * s + y) * s ≤ 90 * 9 := Nat.mul_le_mul (by omega) hs
  refine ⟨z * s, z * s + y, (z * s + y) * s, (z * s + y) * s + x, mulW7 (by omega) (by omega), addW7 (by omega) (by omega), mulW7 (by omega) (by omega), addW7 (by omega) (by omega), ?_, h⟩
  unfold vtxN
  simp
/-- An odd face, by its axis: the cells on both sides. -/
theorem cell_case {n s : Nat} {l : List EF} {f : EF} (hs : s = n + 1) (hf : f ∈ oddP n l) :
    (∃ x1 x y z : Nat, f = (0, (x1 : Int), (y : Int), (z : Int)) ∧ x1 = x + 1 ∧ x1 + 1 < s ∧ y < s ∧ z < s) ∨
    (∃ x y1 y z : Nat, f = (1, (x : Int), (y1 : Int), (z : Int)) ∧ y1 = y + 1 ∧ x < s ∧ y1 + 1 < s ∧ z < s) ∨
    (∃ x y z1 z : Nat, f = (2, (x : Int), (y : Int), (z1 : Int)) ∧ z1 = z + 1 ∧ x < s ∧ y < s ∧ z1 + 1 < s) := by
  obtain ⟨h1, h2, _, h4, h5⟩ := odd_known hf
  obtain ⟨a, x, y, z⟩ := f
  unfold rngP at h2
  dsimp only at h1 h2 h4 h5
  obtain ⟨⟨a1, a2⟩, ⟨a3, a4⟩, a5, a6⟩ := h2
  rcases h1 with rfl | rfl | rfl
  · simp [cmp3] at h4 h5
    refine .inl ⟨x.toNat, (x - 1).toNat, y.toNat, z.toNat, ?_, by omega, by omega, by omega, by omega⟩
    rw [Int.toNat_of_nonneg a1, Int.toNat_of_nonneg a3, Int.toNat_of_nonneg a5]
  · simp [cmp3] at h4 h5
    refine .inr (.inl ⟨x.toNat, y.toNat, (y - 1).toNat, z.toNat, ?_, by omega, by omega, by omega, by omega⟩)
    rw [Int.toNat_of_nonneg a1, Int.toNat_of_nonneg a3, Int.toNat_of_nonneg a5]
  · simp [cmp3] at h4 h5
    refine .inr (.inr ⟨x.toNat, y.toNat, z.toNat, (z - 1).toNat, ?_, by omega, by omega, by omega, by omega⟩)
    rw [Int.toNat_of_nonneg a1, Int.toNat_of_nonneg a3, Int.toNat_of_nonneg a5]
/-- The count of a cell, and of the cell behind. -/
theorem cnt_a {l : List EF} {s : Nat} {f : EF} (hp : rngP s f.2) : (cntL l s)[vtxN s f.2]? = some (metC l f.2) := cntL_get hp
theorem cnt_b {l : List EF} {s : Nat} {f : EF} {p : Pt} (hp : rngP s p) (hne : f.2 ≠ p) : (cntH l f s)[vtxN s p]? = some (metC l p) := by
  have := cntH_get (l := l) (f := f) hp
  rw [if_neg hne, Nat.add_zero] at this
  exact this
theorem cnt_c {l : List EF} {s : Nat} {f : EF} {p : Pt} (hp : rngP s p) (he : add3 f.2 f.1 (-1) = p) (hne : f.2 ≠ p) : (cntH l f s).set (vtxN s p) (metC l p + 1) = cntL (l ++ [f]) s := by
  subst he
  have := cnt_two (l := l) (f := f) hp
  rw [if_neg hne, Nat.add_zero] at this
  exact this
theorem rngN {s x y z : Nat} (hx : x < s) (hy : y < s) (hz : z < s) : rngP s ((x : Int), (y : Int), (z : Int)) := by unfold rngP; dsimp only; omega
set_option maxRecDepth 100000 in
set_option maxHeartbeats 32000000 in
theorem cells7_walk (A0 : Option Addr) (c0 : Nat) (ns0 : List Int) (x1 : Int) (w : World) (hs0 : ns0 ≠ [] → Sl encZ 1 w w.heap.size A0 ns0) (hf0 : ∀ x ∈ ns0, fits x) (hl0 : ns0.length ≤ 9223372036854775807) (_hx1 : fits x1) :
    Calls Try.prog 8 #[.slice A0 ns0.length c0, .int .i64 x1] w fun e w' => e = .returned (.bool true) ∧ Below w.heap.size w w' := by
  have hsome := fun (W : World) (hW : Below w.heap.size w W) => some7_any A0 c0 ns0 x1 W (fun hne => ((hs0 hne).below hW).more hW.size) hf0 hl0
  obtain ⟨N0, hN0⟩ : ∃ N, N = ns0.length := ⟨_, rfl⟩
  rw [← hN0] at hsome ⊢
  have hlev := level7_any x1
  obtain ⟨hL1, hL3⟩ := levP_bound x1
  obtain ⟨L, hL⟩ : ∃ L, L = levP x1 := ⟨_, rfl⟩
  rw [← hL] at hlev hL1 hL3
  have hL8 : 1 ≤ (L : Int) ∧ (L : Int) ≤ 8 := by omega
  have hsd := side7_any (L : Int)
  rw [sideP_in hL8, Int.toNat_natCast] at hsd
  obtain ⟨n, s, q, m, hn, hs, hm, ⟨hs3, hs9, hm7⟩, hw1, hw2⟩ := lev_nums3 hL1 hL3
  rw [← hn, ← hs] at hsd
  have hmk := mk_n7 m (Nat.le_trans hm7 (by decide))
  obtain ⟨ZN, hZN⟩ : ∃ Z, Z = ((List.replicate m 0).map fun k : Nat => Value.int .i64 (k : Int)).toArray := ⟨_, rfl⟩
  rw [← hZN] at hmk
  have H0 := hide (And.intro hsome (And.intro hlev (And.intro hsd (And.intro hZN (And.intro hn (And.intro hs (And.intro hm hL8)))))))
  clear hsome hlev hsd hZN hn hs hm hL1 hL3 hL8 hL hs0 hf0 hl0 hN0
  go_enter Try.func8, Try.ntmps8
  go_wp2_with fail
  refine (sanity7_any w).mono ?_
  rintro e w1 ⟨rfl, hB1⟩
  have H1 := hide hB1
  clear hB1
  go_wp2_with fail
  refine (H0.out.2.1 w1).mono ?_
  rintro e w2 ⟨rfl, hw3⟩
  obtain rfl : w1 = w2 := hw3.symm
  go_wp2_with fail
  refine (H0.out.2.2.1 w1).mono ?_
  rintro e w2 ⟨rfl, hw3⟩
  obtain rfl : w1 = w2 := hw3.symm
  go_upto_region 4 with fail
  obtain ⟨X, hX⟩ : ∃ X, X = w1.alloc (.cells ZN 3) := ⟨_, rfl⟩
  rw [← hX]
  have hrow : RowN X w1.heap.size (cntL [] s) := by
    rw [cntL_nil, ← H0.out.2.2.2.2.2.2.1, hX, H0.out.2.2.2.1]
    exact Blk.new _ _ _
  have hBX : Below w.heap.size w X := by rw [hX]; exact H1.out.alloc H1.out.size _
  have hXs : w1.heap.size < X.heap.size := by rw [hX]; simp
  have hww := H1.out.size
  have HX := hide (And.intro hrow hBX)
  clear hrow hBX hX hmk hw1 hw2
  obtain ⟨gm, hgm⟩ : ∃ g, g = w1.heap.size := ⟨_, rfl⟩
  rw [← hgm] at HX hXs hww ⊢
  clear hgm
  go_wp2_with fail
  refine (H0.out.1 X HX.out.2).mono ?_
  rintro e w3 ⟨v2, es, rfl, hown, hlen, hes, hB2⟩
  obtain ⟨A2, c2, rfl⟩ := hown.form
  obtain ⟨N2, hN2⟩ : ∃ N, N = es.length := ⟨_, rfl⟩
  rw [← hN2] at hown hlen ⊢
  have H2 := hide (And.intro (hown.sl encF_len (Nat.le_refl _)) (And.intro hN2 (And.intro hlen (And.intro (fun e he => (hes e he).fits) hB2))))
  clear hown hN2 hlen hes hB2
  go_wp2_with fail
  refine (H0.out.2.1 w3).mono ?_
  rintro e w2 ⟨rfl, hw3⟩
  obtain rfl : w3 = w2 := hw3.symm
  go_wp2_with fail
  have hodd : oddV (L : Int) es = oddP n es := by
    unfold oddV
    rw [if_pos H0.out.2.2.2.2.2.2.2, Int.toNat_natCast, ← H0.out.2.2.2.2.1]
  obtain ⟨fs, hfs⟩ : ∃ fs, fs = oddP n es := ⟨_, rfl⟩
  obtain ⟨M, hM⟩ : ∃ M, M = fs.length := ⟨_, rfl⟩
  have hfew : M ≤ 120 := by
    rw [hM, hfs]
    have h1 := odd_few n es
    have h2 := H2.out.2.2.1
    have h3 := H2.out.2.1
    unfold oddP
    omega
  have HF := hide (And.intro hfs hM)
  refine (Odd7_as (k := N2) (m := M) (Lz := (L : Int)) (l := es) (fs := fs) H2.out.2.1 (hodd.trans hfs.symm) hM (by have := H2.out.2.2.1; omega) H2.out.2.2.2.1 A2 c2 w3 H2.out.1).mono ?_
  clear hodd hfs hM
  rintro e w4 ⟨A4, c4, rfl, hown4, hB4⟩
  have hB34 := H2.out.2.2.2.2.trans (hB4.mono H2.out.2.2.2.2.size)
  have hrow4 : RowN w4 gm (cntL [] s) := Blk.below HX.out.1 hB34 hXs
  have hg3 : gm < w3.heap.size := Nat.lt_of_lt_of_le hXs H2.out.2.2.2.2.size
  have H4 := hide (And.intro hown4 (And.intro hrow4 (HX.out.2.trans (hB34.mono HX.out.2.size))))
  clear hown4 hB4 hB34 hrow4
  go_wp2_with fail
  go_loopw [9] (fun iv wr => ∃ k : Nat, k ≤ M ∧ iv = .int .i64 k ∧ RowN wr gm (cntL (fs.take k) s) ∧ Below w.heap.size w wr ∧ Own encF 4 45 wr w3.heap.size (.slice A4 M c4) M fs) (fun iv _ => M - (intOf iv).toNat)
  case atStart => exact ⟨0, by omega, rfl, H4.out.2.1, H4.out.2.2, H4.out.1⟩
  case round =>
    obtain ⟨V, rfl⟩ : ∃ V, V = wr := ⟨_, rfl⟩
    obtain ⟨k, hk, rfl, hrow, hB, hown⟩ := hrel
    have HV := hide (And.intro hrow (And.intro hB hown))
    clear hrow hB hown
    by_cases hkM : k < M
    · have i1 : (k : Int) < (M : Int) := by omega
      obtain ⟨f, hf⟩ : ∃ f, fs[k]? = some f := ⟨_, List.getElem?_eq_getElem (by rw [← HF.out.2]; exact hkM)⟩
      have hmem : f ∈ oddP n es := by rw [← HF.out.1]; exact List.mem_of_getElem? hf
      have htk : fs.take (k + 1) = fs.take k ++ [f] := by rw [List.take_add_one, hf]; rfl
      have hlk : (fs.take k).length ≤ 120 := Nat.le_trans (List.length_take_le _ _) (Nat.le_trans hk hfew)
      obtain ⟨tb, oo, hA, htb, g0, g1, g2, g3⟩ := (HV.out.2.2.sl encF_len (Nat.le_refl _)).four hf
      subst hA
      have hob : ∀ r, (Value.slice (some ⟨tb, oo, none⟩) M c4).ownBlock = some r → w3.heap.size ≤ r ∧ r < V.heap.size := HV.out.2.2.blk
      have hgV : gm < V.heap.size := Blk.lt HV.out.1
      have hwV := HV.out.2.1.size
      obtain ⟨LT, hLT⟩ : ∃ LT, LT = fs.take k := ⟨_, rfl⟩
      rw [← hLT] at htk hlk HV
      have HT := hide (And.intro htk (And.intro hlk hob))
      clear htk hlk hob hf hLT
      rcases cell_case H0.out.2.2.2.2.2.1 hmem with ⟨x1, x, y, z, rfl, h1, hx, hy, hz⟩ | ⟨x, y1, y, z, rfl, h1, hx, hy, hz⟩ | ⟨x, y, z1, z, rfl, h1, hx, hy, hz⟩
      · dsimp only at g0 g1 g2 g3
        obtain ⟨p1, p2, p3, j, wz1, wz2, wz3, wz4, hj, hjm⟩ := idx_nums hs9 (x := x1) (y := y) (z := z) (by omega) (by omega) (by omega)
        obtain ⟨q1, q2, q3, i, vz1, vz2, vz3, vz4, hi, him⟩ := idx_nums hs9 (x := x) (y := y) (z := z) (by omega) (by omega) (by omega)
        rw [← H0.out.2.2.2.2.2.2.1] at hjm him
        have hra : rngP s ((x1 : Int), (y : Int), (z : Int)) := rngN (by omega) (by omega) (by omega)
        have hrb : rngP s ((x : Int), (y : Int), (z : Int)) := rngN (by omega) (by omega) (by omega)
        have hadd : add3 ((x1 : Int), (y : Int), (z : Int)) 0 (-1) = ((x : Int), (y : Int), (z : Int)) := by simp [add3, set3, cmp3]; omega
        have hne : ((x1 : Int), (y : Int), (z : Int)) ≠ ((x : Int), (y : Int), (z : Int)) := by simp; omega
        have c1 := cnt_a (l := LT) (f := (0, ((x1 : Int), (y : Int), (z : Int)))) hra
        have c2 := cnt_b (l := LT) (f := (0, ((x1 : Int), (y : Int), (z : Int)))) hrb hne
        have c3 := cnt_one (l := LT) (f := (0, ((x1 : Int), (y : Int), (z : Int)))) hra
        have c4' := cnt_c (l := LT) (f := (0, ((x1 : Int), (y : Int), (z : Int)))) hrb hadd hne
        have cb1 := metC_le LT ((x1 : Int), (y : Int), (z : Int))
        have cb2 := metC_le LT ((x : Int), (y : Int), (z : Int))
        rw [← hj] at c1 c3
        rw [← hi] at c2 c4'
        dsimp only at c1 c3
        obtain ⟨n1, hn1⟩ : ∃ n1, n1 = metC LT ((x1 : Int), (y : Int), (z : Int)) := ⟨_, rfl⟩
        obtain ⟨n2, hn2⟩ : ∃ n2, n2 = metC LT ((x : Int), (y : Int), (z : Int)) := ⟨_, rfl⟩
        rw [← hn1] at c1 c3 cb1
        rw [← hn2] at c2 c4' cb2
        have hn1b : n1 ≤ 240 := by have := HT.out.2.1; omega
        have hn2b : n2 ≤ 240 := by have := HT.out.2.1; omega
        rw [← HT.out.1] at c4'
        obtain ⟨CH, hCH⟩ : ∃ CH, CH = cntH LT (0, ((x1 : Int), (y : Int), (z : Int))) s := ⟨_, rfl⟩
        rw [← hCH] at c2 c3 c4'
        have HC := hide (And.intro c1 (And.intro c2 (And.intro c3 c4')))
        have hd1 : (x1 : Int) - 1 = (x : Int) := by omega
        have hd2 : ¬ (x1 : Int) = 0 := by omega
        have hd3 : ¬ (x1 : Int) = (s : Int) - 1 := by omega
        have HD := hide hd1
        have HVZ := hide (And.intro vz1 (And.intro vz2 (And.intro vz3 vz4)))
        clear vz1 vz2 vz3 vz4 hd1 h1 hj hi hra hrb hadd hne c1 c2 c3 c4' cb1 cb2 hn1 hn2 hCH hmem
        go_upto_region 9 with fail
        obtain ⟨Y1, hY1⟩ : ∃ Y, Y = V.alloc (.cells #[.int .i64 0, .int .i64 x1, .int .i64 y, .int .i64 z] 45) := ⟨_, rfl⟩
        rw [← hY1]
        have hb1 : Blk Y1 V.heap.size 45 #[.int .i64 0, .int .i64 x1, .int .i64 y, .int .i64 z] := by rw [hY1]; exact Blk.new _ _ _
        have hB1 : Below V.heap.size V Y1 := by rw [hY1]; exact (Below.refl _ V).alloc (Nat.le_refl _) _
        have hz1 : Y1.heap.size = V.heap.size + 1 := by rw [hY1]; simp
        obtain ⟨a0, a1, a2, a3⟩ := hb1.four
        have K1 := hide (And.intro hb1 hB1)
        clear hY1 hb1 hB1 g0 g1 g2 g3
        go_upto_region 10 with fail
        obtain ⟨Y, hY⟩ : ∃ Y, Y = Y1.alloc (.cells #[.int .i64 x1, .int .i64 y, .int .i64 z] 42) := ⟨_, rfl⟩
        rw [← hY]
        have hb2 : Blk Y Y1.heap.size 42 #[.int .i64 x1, .int .i64 y, .int .i64 z] := by rw [hY]; exact Blk.new _ _ _
        have hb1 : Blk Y V.heap.size 45 #[.int .i64 0, .int .i64 x1, .int .i64 y, .int .i64 z] := by rw [hY]; exact K1.out.1.alloc _
        have hB2 : Below V.heap.size V Y := by rw [hY]; exact K1.out.2.alloc K1.out.2.size _
        have hrowY : RowN Y gm (cntL LT s) := Blk.below HV.out.1 hB2 hgV
        clear a0 a1 a2 a3
        obtain ⟨a0, a1, a2, a3⟩ := hb1.four
        obtain ⟨b0, b1, b2⟩ := hb2.three
        have f0 := hb2.frozen 0
        have e1 := hrowY.cell HC.out.1
        have f1 := hrowY.frozen j
        have hzY : Y.heap.size = V.heap.size + 2 := by rw [hY]; simp [hz1]
        have K2 := hide (And.intro hb1 (And.intro hb2 (And.intro hB2 hrowY)))
        clear hb1 hb2 hB2 hrowY hY K1
        obtain ⟨bf, hbf⟩ : ∃ bf, bf = V.heap.size := ⟨_, rfl⟩
        rw [hz1] at K2 b0 b1 b2 f0
        clear hbf
        go_cut [92] (fun v wx => v = .bool false ∧ wx = Y)
        case first =>
          go_wp2_with fail
          go_meet
          case rel =>
            refine ⟨congrArg Value.bool ?_, rfl⟩
            simp only [Bool.or_eq_false_iff, decide_eq_false_iff_not, beq_eq_false_iff_ne, ne_eq]
            omega
        case rest =>
          obtain ⟨rfl, hwc⟩ := hcut
          obtain rfl : Y = wc := hwc.symm
          have hd1 := HD.out
          go_upto_region 13 with fail
          obtain ⟨W1, hW1⟩ : ∃ W, W = Y.setCell ⟨gm, j, none⟩ (.int .i64 ((n1 : Int) + 1)) := ⟨_, rfl⟩
          rw [← hW1]
          have r1 : RowN W1 gm CH := by rw [hW1, ← HC.out.2.2.1]; exact K2.out.2.2.2.set j (n1 + 1)
          have l1 : Blk W1 V.heap.size 45 #[.int .i64 0, .int .i64 x1, .int .i64 y, .int .i64 z] := by rw [hW1]; exact K2.out.1.far (p := ⟨gm, j, none⟩) (by dsimp only; omega) _
          have l2 : Blk W1 (V.heap.size + 1) 42 #[.int .i64 x1, .int .i64 y, .int .i64 z] := by rw [hW1]; exact K2.out.2.1.far (p := ⟨gm, j, none⟩) (by dsimp only; omega) _
          have o1 := (HV.out.2.2.below K2.out.2.2.1 (Nat.le_refl _)).kept (grown_set7 Y gm j (.int .i64 ((n1 : Int) + 1))) (.inr fun e => by have := (HT.out.2.2 _ e).1; omega)
          have g1 : Below w.heap.size w (Y.setCell ⟨gm, j, none⟩ (.int .i64 ((n1 : Int) + 1))) := (HV.out.2.1.trans (K2.out.2.2.1.mono hwV)).setCell hww _
          rw [← hW1] at o1 g1
          clear a0 a1 a2 a3 b0 b1 b2 f0 e1 f1
          obtain ⟨a0, a1, a2, a3⟩ := l1.four
          obtain ⟨b0, b1, b2⟩ := l2.three
          have f0 := l2.frozen 0
          have L1 := hide (And.intro r1 (And.intro l1 (And.intro l2 (And.intro o1 g1))))
          clear r1 l1 l2 o1 g1 hW1
          go_upto_region 14 with fail
          obtain ⟨W2, hW2⟩ : ∃ W, W = W1.setCell ⟨V.heap.size + 1, 0, none⟩ (.int .i64 (x : Int)) := ⟨_, rfl⟩
          rw [← hW2]
          have r1 : RowN W2 gm CH := by rw [hW2]; exact L1.out.1.far (p := ⟨V.heap.size + 1, 0, none⟩) (by dsimp only; omega) _
          have l2 : Blk W2 (V.heap.size + 1) 42 #[.int .i64 x, .int .i64 y, .int .i64 z] := by rw [hW2]; exact L1.out.2.2.1.set_ 0 _
          have o1 := L1.out.2.2.2.1.kept (grown_set7 W1 (V.heap.size + 1) 0 (.int .i64 (x : Int))) (.inr fun e => by have := (HT.out.2.2 _ e).2; omega)
          have g1 : Below w.heap.size w (W1.setCell ⟨V.heap.size + 1, 0, none⟩ (.int .i64 (x : Int))) := L1.out.2.2.2.2.setCell (by dsimp only; omega) _
          rw [← hW2] at o1 g1
          clear a0 a1 a2 a3 b0 b1 b2 f0
          obtain ⟨b0, b1, b2⟩ := l2.three
          have e1 := r1.cell HC.out.2.1
          have f1 := r1.frozen i
          have M2 := hide (And.intro r1 (And.intro l2 (And.intro o1 g1)))
          clear r1 l2 o1 g1 hW2 hd1 hd2 hd3 wz1 wz2 wz3 wz4
          obtain ⟨vz1, vz2, vz3, vz4⟩ := HVZ.out
          go_wp2_with fail
          go_roundw
          case rel =>
            refine ⟨k + 1, by omega, by go_num, ?_, M2.out.2.2.2.setCell hww _, M2.out.2.2.1.kept (grown_set7 _ _ _ _) (.inr fun e => by have := (HT.out.2.2 _ e).1; omega)⟩
            rw [← HC.out.2.2.2]
            exact M2.out.1.set i (n2 + 1)
          case measure => simp [intOf]; omega
      · dsimp only at g0 g1 g2 g3
        obtain ⟨p1, p2, p3, j, wz1, wz2, wz3, wz4, hj, hjm⟩ := idx_nums hs9 (x := x) (y := y1) (z := z) (by omega) (by omega) (by omega)
        obtain ⟨q1, q2, q3, i, vz1, vz2, vz3, vz4, hi, him⟩ := idx_nums hs9 (x := x) (y := y) (z := z) (by omega) (by omega) (by omega)
        rw [← H0.out.2.2.2.2.2.2.1] at hjm him
        have hra : rngP s ((x : Int), (y1 : Int), (z : Int)) := rngN (by omega) (by omega) (by omega)
        have hrb : rngP s ((x : Int), (y : Int), (z : Int)) := rngN (by omega) (by omega) (by omega)
        have hadd : add3 ((x : Int), (y1 : Int), (z : Int)) 1 (-1) = ((x : Int), (y : Int), (z : Int)) := by simp [add3, set3, cmp3]; omega
        have hne : ((x : Int), (y1 : Int), (z : Int)) ≠ ((x : Int), (y : Int), (z : Int)) := by simp; omega
        have c1 := cnt_a (l := LT) (f := (1, ((x : Int), (y1 : Int), (z : Int)))) hra
        have c2 := cnt_b (l := LT) (f := (1, ((x : Int), (y1 : Int), (z : Int)))) hrb hne
        have c3 := cnt_one (l := LT) (f := (1, ((x : Int), (y1 : Int), (z : Int)))) hra
        have c4' := cnt_c (l := LT) (f := (1, ((x : Int), (y1 : Int), (z : Int)))) hrb hadd hne
        have cb1 := metC_le LT ((x : Int), (y1 : Int), (z : Int))
        have cb2 := metC_le LT ((x : Int), (y : Int), (z : Int))
        rw [← hj] at c1 c3
        rw [← hi] at c2 c4'
        dsimp only at c1 c3
        obtain ⟨n1, hn1⟩ : ∃ n1, n1 = metC LT ((x : Int), (y1 : Int), (z : Int)) := ⟨_, rfl⟩
        obtain ⟨n2, hn2⟩ : ∃ n2, n2 = metC LT ((x : Int), (y : Int), (z : Int)) := ⟨_, rfl⟩
        rw [← hn1] at c1 c3 cb1
        rw [← hn2] at c2 c4' cb2
        have hn1b : n1 ≤ 240 := by have := HT.out.2.1; omega
        have hn2b : n2 ≤ 240 := by have := HT.out.2.1; omega
        rw [← HT.out.1] at c4'
        obtain ⟨CH, hCH⟩ : ∃ CH, CH = cntH LT (1, ((x : Int), (y1 : Int), (z : Int))) s := ⟨_, rfl⟩
        rw [← hCH] at c2 c3 c4'
        have HC := hide (And.intro c1 (And.intro c2 (And.intro c3 c4')))
        have hd1 : (y1 : Int) - 1 = (y : Int) := by omega
        have hd2 : ¬ (y1 : Int) = 0 := by omega
        have hd3 : ¬ (y1 : Int) = (s : Int) - 1 := by omega
        have HD := hide hd1
        have HVZ := hide (And.intro vz1 (And.intro vz2 (And.intro vz3 vz4)))
        clear vz1 vz2 vz3 vz4 hd1 h1 hj hi hra hrb hadd hne c1 c2 c3 c4' cb1 cb2 hn1 hn2 hCH hmem
        go_upto_region 9 with fail
        obtain ⟨Y1, hY1⟩ : ∃ Y, Y = V.alloc (.cells #[.int .i64 1, .int .i64 x, .int .i64 y1, .int .i64 z] 45) := ⟨_, rfl⟩
        rw [← hY1]
        have hb1 : Blk Y1 V.heap.size 45 #[.int .i64 1, .int .i64 x, .int .i64 y1, .int .i64 z] := by rw [hY1]; exact Blk.new _ _ _
        have hB1 : Below V.heap.size V Y1 := by rw [hY1]; exact (Below.refl _ V).alloc (Nat.le_refl _) _
        have hz1 : Y1.heap.size = V.heap.size + 1 := by rw [hY1]; simp
        obtain ⟨a0, a1, a2, a3⟩ := hb1.four
        have K1 := hide (And.intro hb1 hB1)
        clear hY1 hb1 hB1 g0 g1 g2 g3
        go_upto_region 10 with fail
        obtain ⟨Y, hY⟩ : ∃ Y, Y = Y1.alloc (.cells #[.int .i64 x, .int .i64 y1, .int .i64 z] 42) := ⟨_, rfl⟩
        rw [← hY]
        have hb2 : Blk Y Y1.heap.size 42 #[.int .i64 x, .int .i64 y1, .int .i64 z] := by rw [hY]; exact Blk.new _ _ _
        have hb1 : Blk Y V.heap.size 45 #[.int .i64 1, .int .i64 x, .int .i64 y1, .int .i64 z] := by rw [hY]; exact K1.out.1.alloc _
        have hB2 : Below V.heap.size V Y := by rw [hY]; exact K1.out.2.alloc K1.out.2.size _
        have hrowY : RowN Y gm (cntL LT s) := Blk.below HV.out.1 hB2 hgV
        clear a0 a1 a2 a3
        obtain ⟨a0, a1, a2, a3⟩ := hb1.four
        obtain ⟨b0, b1, b2⟩ := hb2.three
        have f0 := hb2.frozen 1
        have e1 := hrowY.cell HC.out.1
        have f1 := hrowY.frozen j
        have hzY : Y.heap.size = V.heap.size + 2 := by rw [hY]; simp [hz1]
        have K2 := hide (And.intro hb1 (And.intro hb2 (And.intro hB2 hrowY)))
        clear hb1 hb2 hB2 hrowY hY K1
        obtain ⟨bf, hbf⟩ : ∃ bf, bf = V.heap.size := ⟨_, rfl⟩
        rw [hz1] at K2 b0 b1 b2 f0
        clear hbf
        go_cut [92] (fun v wx => v = .bool false ∧ wx = Y)
        case first =>
          go_wp2_with fail
          go_meet
          case rel =>
            refine ⟨congrArg Value.bool ?_, rfl⟩
            simp only [Bool.or_eq_false_iff, decide_eq_false_iff_not, beq_eq_false_iff_ne, ne_eq]
            omega
        case rest =>
          obtain ⟨rfl, hwc⟩ := hcut
          obtain rfl : Y = wc := hwc.symm
          have hd1 := HD.out
          go_upto_region 13 with fail
          obtain ⟨W1, hW1⟩ : ∃ W, W = Y.setCell ⟨gm, j, none⟩ (.int .i64 ((n1 : Int) + 1)) := ⟨_, rfl⟩
          rw [← hW1]
          have r1 : RowN W1 gm CH := by rw [hW1, ← HC.out.2.2.1]; exact K2.out.2.2.2.set j (n1 + 1)
          have l1 : Blk W1 V.heap.size 45 #[.int .i64 1, .int .i64 x, .int .i64 y1, .int .i64 z] := by rw [hW1]; exact K2.out.1.far (p := ⟨gm, j, none⟩) (by dsimp only; omega) _
          have l2 : Blk W1 (V.heap.size + 1) 42 #[.int .i64 x, .int .i64 y1, .int .i64 z] := by rw [hW1]; exact K2.out.2.1.far (p := ⟨gm, j, none⟩) (by dsimp only; omega) _
          have o1 := (HV.out.2.2.below K2.out.2.2.1 (Nat.le_refl _)).kept (grown_set7 Y gm j (.int .i64 ((n1 : Int) + 1))) (.inr fun e => by have := (HT.out.2.2 _ e).1; omega)
          have g1 : Below w.heap.size w (Y.setCell ⟨gm, j, none⟩ (.int .i64 ((n1 : Int) + 1))) := (HV.out.2.1.trans (K2.out.2.2.1.mono hwV)).setCell hww _
          rw [← hW1] at o1 g1
          clear a0 a1 a2 a3 b0 b1 b2 f0 e1 f1
          obtain ⟨a0, a1, a2, a3⟩ := l1.four
          obtain ⟨b0, b1, b2⟩ := l2.three
          have f0 := l2.frozen 1
          have L1 := hide (And.intro r1 (And.intro l1 (And.intro l2 (And.intro o1 g1))))
          clear r1 l1 l2 o1 g1 hW1
          go_upto_region 14 with fail
          obtain ⟨W2, hW2⟩ : ∃ W, W = W1.setCell ⟨V.heap.size + 1, 1, none⟩ (.int .i64 (y : Int)) := ⟨_, rfl⟩
          rw [← hW2]
          have r1 : RowN W2 gm CH := by rw [hW2]; exact L1.out.1.far (p := ⟨V.heap.size + 1, 1, none⟩) (by dsimp only; omega) _
          have l2 : Blk W2 (V.heap.size + 1) 42 #[.int .i64 x, .int .i64 y, .int .i64 z] := by rw [hW2]; exact L1.out.2.2.1.set_ 1 _
          have o1 := L1.out.2.2.2.1.kept (grown_set7 W1 (V.heap.size + 1) 1 (.int .i64 (y : Int))) (.inr fun e => by have := (HT.out.2.2 _ e).2; omega)
          have g1 : Below w.heap.size w (W1.setCell ⟨V.heap.size + 1, 1, none⟩ (.int .i64 (y : Int))) := L1.out.2.2.2.2.setCell (by dsimp only; omega) _
          rw [← hW2] at o1 g1
          clear a0 a1 a2 a3 b0 b1 b2 f0
          obtain ⟨b0, b1, b2⟩ := l2.three
          have e1 := r1.cell HC.out.2.1
          have f1 := r1.frozen i
          have M2 := hide (And.intro r1 (And.intro l2 (And.intro o1 g1)))
          clear r1 l2 o1 g1 hW2 hd1 hd2 hd3 wz1 wz2 wz3 wz4
          obtain ⟨vz1, vz2, vz3, vz4⟩ := HVZ.out
          go_wp2_with fail
          go_roundw
          case rel =>
            refine ⟨k + 1, by omega, by go_num, ?_, M2.out.2.2.2.setCell hww _, M2.out.2.2.1.kept (grown_set7 _ _ _ _) (.inr fun e => by have := (HT.out.2.2 _ e).1; omega)⟩
            rw [← HC.out.2.2.2]
            exact M2.out.1.set i (n2 + 1)
          case measure => simp [intOf]; omega
      · dsimp only at g0 g1 g2 g3
        obtain ⟨p1, p2, p3, j, wz1, wz2, wz3, wz4, hj, hjm⟩ := idx_nums hs9 (x := x) (y := y) (z := z1) (by omega) (by omega) (by omega)
        obtain ⟨q1, q2, q3, i, vz1, vz2, vz3, vz4, hi, him⟩ := idx_nums hs9 (x := x) (y := y) (z := z) (by omega) (by omega) (by omega)
        rw [← H0.out.2.2.2.2.2.2.1] at hjm him
        have hra : rngP s ((x : Int), (y : Int), (z1 : Int)) := rngN (by omega) (by omega) (by omega)
        have hrb : rngP s ((x : Int), (y : Int), (z : Int)) := rngN (by omega) (by omega) (by omega)
        have hadd : add3 ((x : Int), (y : Int), (z1 : Int)) 2 (-1) = ((x : Int), (y : Int), (z : Int)) := by simp [add3, set3, cmp3]; omega
        have hne : ((x : Int), (y : Int), (z1 : Int)) ≠ ((x : Int), (y : Int), (z : Int)) := by simp; omega
        have c1 := cnt_a (l := LT) (f := (2, ((x : Int), (y : Int), (z1 : Int)))) hra
        have c2 := cnt_b (l := LT) (f := (2, ((x : Int), (y : Int), (z1 : Int)))) hrb hne
        have c3 := cnt_one (l := LT) (f := (2, ((x : Int), (y : Int), (z1 : Int)))) hra
        have c4' := cnt_c (l := LT) (f := (2, ((x : Int), (y : Int), (z1 : Int)))) hrb hadd hne
        have cb1 := metC_le LT ((x : Int), (y : Int), (z1 : Int))
        have cb2 := metC_le LT ((x : Int), (y : Int), (z : Int))
        rw [← hj] at c1 c3
        rw [← hi] at c2 c4'
        dsimp only at c1 c3
        obtain ⟨n1, hn1⟩ : ∃ n1, n1 = metC LT ((x : Int), (y : Int), (z1 : Int)) := ⟨_, rfl⟩
        obtain ⟨n2, hn2⟩ : ∃ n2, n2 = metC LT ((x : Int), (y : Int), (z : Int)) := ⟨_, rfl⟩
        rw [← hn1] at c1 c3 cb1
        rw [← hn2] at c2 c4' cb2
        have hn1b : n1 ≤ 240 := by have := HT.out.2.1; omega
        have hn2b : n2 ≤ 240 := by have := HT.out.2.1; omega
        rw [← HT.out.1] at c4'
        obtain ⟨CH, hCH⟩ : ∃ CH, CH = cntH LT (2, ((x : Int), (y : Int), (z1 : Int))) s := ⟨_, rfl⟩
        rw [← hCH] at c2 c3 c4'
        have HC := hide (And.intro c1 (And.intro c2 (And.intro c3 c4')))
        have hd1 : (z1 : Int) - 1 = (z : Int) := by omega
        have hd2 : ¬ (z1 : Int) = 0 := by omega
        have hd3 : ¬ (z1 : Int) = (s : Int) - 1 := by omega
        have HD := hide hd1
        have HVZ := hide (And.intro vz1 (And.intro vz2 (And.intro vz3 vz4)))
        clear vz1 vz2 vz3 vz4 hd1 h1 hj hi hra hrb hadd hne c1 c2 c3 c4' cb1 cb2 hn1 hn2 hCH hmem
        go_upto_region 9 with fail
        obtain ⟨Y1, hY1⟩ : ∃ Y, Y = V.alloc (.cells #[.int .i64 2, .int .i64 x, .int .i64 y, .int .i64 z1] 45) := ⟨_, rfl⟩
        rw [← hY1]
        have hb1 : Blk Y1 V.heap.size 45 #[.int .i64 2, .int .i64 x, .int .i64 y, .int .i64 z1] := by rw [hY1]; exact Blk.new _ _ _
        have hB1 : Below V.heap.size V Y1 := by rw [hY1]; exact (Below.refl _ V).alloc (Nat.le_refl _) _
        have hz1 : Y1.heap.size = V.heap.size + 1 := by rw [hY1]; simp
        obtain ⟨a0, a1, a2, a3⟩ := hb1.four
        have K1 := hide (And.intro hb1 hB1)
        clear hY1 hb1 hB1 g0 g1 g2 g3
        go_upto_region 10 with fail
        obtain ⟨Y, hY⟩ : ∃ Y, Y = Y1.alloc (.cells #[.int .i64 x, .int .i64 y, .int .i64 z1] 42) := ⟨_, rfl⟩
        rw [← hY]
        have hb2 : Blk Y Y1.heap.size 42 #[.int .i64 x, .int .i64 y, .int .i64 z1] := by rw [hY]; exact Blk.new _ _ _
        have hb1 : Blk Y V.heap.size 45 #[.int .i64 2, .int .i64 x, .int .i64 y, .int .i64 z1] := by rw [hY]; exact K1.out.1.alloc _
        have hB2 : Below V.heap.size V Y := by rw [hY]; exact K1.out.2.alloc K1.out.2.size _
        have hrowY : RowN Y gm (cntL LT s) := Blk.below HV.out.1 hB2 hgV
        clear a0 a1 a2 a3
        obtain ⟨a0, a1, a2, a3⟩ := hb1.four
        obtain ⟨b0, b1, b2⟩ := hb2.three
        have f0 := hb2.frozen 2
        have e1 := hrowY.cell HC.out.1
        have f1 := hrowY.frozen j
        have hzY : Y.heap.size = V.heap.size + 2 := by rw [hY]; simp [hz1]
        have K2 := hide (And.intro hb1 (And.intro hb2 (And.intro hB2 hrowY)))
        clear hb1 hb2 hB2 hrowY hY K1
        obtain ⟨bf, hbf⟩ : ∃ bf, bf = V.heap.size := ⟨_, rfl⟩
        rw [hz1] at K2 b0 b1 b2 f0
        clear hbf
        go_cut [92] (fun v wx => v = .bool false ∧ wx = Y)
        case first =>
          go_wp2_with fail
          go_meet
          case rel =>
            refine ⟨congrArg Value.bool ?_, rfl⟩
            simp only [Bool.or_eq_false_iff, decide_eq_false_iff_not, beq_eq_false_iff_ne, ne_eq]
            omega
        case rest =>
          obtain ⟨rfl, hwc⟩ := hcut
          obtain rfl : Y = wc := hwc.symm
          have hd1 := HD.out
          go_upto_region 13 with fail
          obtain ⟨W1, hW1⟩ : ∃ W, W = Y.setCell ⟨gm, j, none⟩ (.int .i64 ((n1 : Int) + 1)) := ⟨_, rfl⟩
          rw [← hW1]
          have r1 : RowN W1 gm CH := by rw [hW1, ← HC.out.2.2.1]; exact K2.out.2.2.2.set j (n1 + 1)
          have l1 : Blk W1 V.heap.size 45 #[.int .i64 2, .int .i64 x, .int .i64 y, .int .i64 z1] := by rw [hW1]; exact K2.out.1.far (p := ⟨gm, j, none⟩) (by dsimp only; omega) _
          have l2 : Blk W1 (V.heap.size + 1) 42 #[.int .i64 x, .int .i64 y, .int .i64 z1] := by rw [hW1]; exact K2.out.2.1.far (p := ⟨gm, j, none⟩) (by dsimp only; omega) _
          have o1 := (HV.out.2.2.below K2.out.2.2.1 (Nat.le_refl _)).kept (grown_set7 Y gm j (.int .i64 ((n1 : Int) + 1))) (.inr fun e => by have := (HT.out.2.2 _ e).1; omega)
          have g1 : Below w.heap.size w (Y.setCell ⟨gm, j, none⟩ (.int .i64 ((n1 : Int) + 1))) := (HV.out.2.1.trans (K2.out.2.2.1.mono hwV)).setCell hww _
          rw [← hW1] at o1 g1
          clear a0 a1 a2 a3 b0 b1 b2 f0 e1 f1
          obtain ⟨a0, a1, a2, a3⟩ := l1.four
          obtain ⟨b0, b1, b2⟩ := l2.three
          have f0 := l2.frozen 2
          have L1 := hide (And.intro r1 (And.intro l1 (And.intro l2 (And.intro o1 g1))))
          clear r1 l1 l2 o1 g1 hW1
          go_upto_region 14 with fail
          obtain ⟨W2, hW2⟩ : ∃ W, W = W1.setCell ⟨V.heap.size + 1, 2, none⟩ (.int .i64 (z : Int)) := ⟨_, rfl⟩
          rw [← hW2]
          have r1 : RowN W2 gm CH := by rw [hW2]; exact L1.out.1.far (p := ⟨V.heap.size + 1, 2, none⟩) (by dsimp only; omega) _
          have l2 : Blk W2 (V.heap.size + 1) 42 #[.int .i64 x, .int .i64 y, .int .i64 z] := by rw [hW2]; exact L1.out.2.2.1.set_ 2 _
          have o1 := L1.out.2.2.2.1.kept (grown_set7 W1 (V.heap.size + 1) 2 (.int .i64 (z : Int))) (.inr fun e => by have := (HT.out.2.2 _ e).2; omega)
          have g1 : Below w.heap.size w (W1.setCell ⟨V.heap.size + 1, 2, none⟩ (.int .i64 (z : Int))) := L1.out.2.2.2.2.setCell (by dsimp only; omega) _
          rw [← hW2] at o1 g1
          clear a0 a1 a2 a3 b0 b1 b2 f0
          obtain ⟨b0, b1, b2⟩ := l2.three
          have e1 := r1.cell HC.out.2.1
          have f1 := r1.frozen i
          have M2 := hide (And.intro r1 (And.intro l2 (And.intro o1 g1)))
          clear r1 l2 o1 g1 hW2 hd1 hd2 hd3 wz1 wz2 wz3 wz4
          obtain ⟨vz1, vz2, vz3, vz4⟩ := HVZ.out
          go_wp2_with fail
          go_roundw
          case rel =>
            refine ⟨k + 1, by omega, by go_num, ?_, M2.out.2.2.2.setCell hww _, M2.out.2.2.1.kept (grown_set7 _ _ _ _) (.inr fun e => by have := (HT.out.2.2 _ e).1; omega)⟩
            rw [← HC.out.2.2.2]
            exact M2.out.1.set i (n2 + 1)
          case measure => simp [intOf]; omega
    · have i1 : ¬ (k : Int) < (M : Int) := by omega
      obtain rfl : k = M := by omega
      have htk : fs.take k = fs := List.take_of_length_le (by rw [← HF.out.2]; exact Nat.le_refl _)
      have hrow := HV.out.1
      rw [htk] at hrow
      have hB := HV.out.2.1
      have HW := hide (And.intro hrow hB)
      clear hrow hB htk HV
      go_wp2_with fail
      go_loopw [12] (fun iv wr => ∃ j : Nat, j ≤ m ∧ iv = .int .i64 j ∧ wr = V) (fun iv _ => m - (intOf iv).toNat)
      case atStart => exact ⟨0, by omega, rfl, rfl⟩
      case round =>
        obtain ⟨j, hj, rfl, rfl⟩ := hrel
        by_cases hjm : j < m
        · have i2 : (j : Int) < (m : Int) := by omega
          obtain ⟨cv, hcv⟩ : ∃ cv, (cntL fs s)[j]? = some cv := ⟨_, List.getElem?_eq_getElem (by rw [cntL_len, ← H0.out.2.2.2.2.2.2.1]; exact hjm)⟩
          have e1 := HW.out.1.cell hcv
          have hev : cv % 2 = 0 := by
            rw [HF.out.1, H0.out.2.2.2.2.2.1] at hcv
            exact cntL_even hcv
          have i3 : (cv : Int) % 2 = 0 := by omega
          have i4 : (cv : Int).tmod 2 = 0 := by rw [Int.tmod_eq_emod_of_nonneg (by omega)]; exact i3
          have HC := hide hcv
          clear hcv hev
          go_wp2
          go_roundw
          case rel => exact ⟨j + 1, by omega, by go_num, by trivial⟩
          case measure => simp [intOf]; omega
        · have i2 : ¬ (j : Int) < (m : Int) := by omega
          go_wp2
          go_ret
          exact ⟨rfl, HW.out.2⟩
end Go.Proofs.Ytdpgohpbannfnaa
