/- SealLevels: the walk. -/
import Derived.Test.YtdpgohpbannfnaaCB17
namespace Go.Proofs.Ytdpgohpbannfnaa
open Go.RowKit Go.Sort Go.WideMaps Go.Maps
/-- A field's box, laid anew. -/
theorem box7 {w W : World} {a b : Value} (hW : W = w.alloc (.cells #[a, b] 32)) : Blk W w.heap.size 32 #[a, b] ∧ Below w.heap.size w W := by
  subst hW
  exact ⟨Blk.new _ _ _, (Below.refl _ w).alloc (Nat.le_refl _) _⟩
theorem mulW7 {a b : Nat} (ha : a ≤ 2000) (hb : b ≤ 2000) : wrap64 ((a : Int) * (b : Int)) = ((a * b : Nat) : Int) := by
  have h := Nat.mul_le_mul ha hb
  rw [← Int.natCast_mul]
  generalize a * b = c at *
  unfold wrap64
  omega
theorem lev_nums {L : Nat} (h5 : L ≤ 5) : ∃ n s q m : Nat, n = 2 ^ L ∧ s = n + 1 ∧ m = (n + 1) * (n + 1) * (n + 1) ∧ wrap64 ((s : Int) * (s : Int)) = (q : Int) ∧ wrap64 ((q : Int) * (s : Int)) = (m : Int) := by
  have hn32 : 2 ^ L ≤ 32 := Nat.pow_le_pow_right (by omega) h5 (n := 2)
  generalize 2 ^ L = n at hn32
  have h1 : (n + 1) * (n + 1) ≤ 33 * 33 := Nat.mul_le_mul (by omega) (by omega)
  refine ⟨n, n + 1, (n + 1) * (n + 1), _, rfl, rfl, rfl, mulW7 (by omega) (by omega), mulW7 ?_ (by omega)⟩
  generalize (n + 1) * (n + 1) = c at *
  omega
theorem sideP_in {L : Int} (h : 1 ≤ L ∧ L ≤ 8) : sideP L = 2 ^ L.toNat + 1 := if_pos h
set_option maxRecDepth 100000 in
set_option maxHeartbeats 32000000 in
theorem levels7_walk (A0 : Option Addr) (c0 : Nat) (ns0 : List Int) (x1 : Int) (w : World) (hs0 : ns0 ≠ [] → Sl encZ 1 w w.heap.size A0 ns0) (hf0 : ∀ x ∈ ns0, fits x) (hl0 : ns0.length ≤ 9223372036854775807) (_hx1 : fits x1) :
    Calls Try.prog 9 #[.slice A0 ns0.length c0, .int .i64 x1] w fun e w' => e = .returned (.bool true) ∧ Below w.heap.size w w' := by
  have hsome := fun (W : World) (hW : Below w.heap.size w W) => some7_any A0 c0 ns0 x1 W (fun hne => ((hs0 hne).below hW).more hW.size) hf0 hl0
  obtain ⟨N0, hN0⟩ : ∃ N, N = ns0.length := ⟨_, rfl⟩
  rw [← hN0] at hsome ⊢
  have m8a := mod_any x1 8 (by omega) (by omega)
  have m8b := modC_bound x1 8 (by omega)
  have mha := mod_any x1 100 (by omega) (by omega)
  have mhb := modC_bound x1 100 (by omega)
  obtain ⟨m8, hm8⟩ : ∃ m, m = modC x1 8 := ⟨_, rfl⟩
  obtain ⟨mh, hmh⟩ : ∃ m, m = modC x1 100 := ⟨_, rfl⟩
  rw [← hm8] at m8a m8b
  rw [← hmh] at mha mhb
  obtain ⟨b1, b2⟩ := m8b
  obtain ⟨b3, b4⟩ := mhb
  have H0 := hide (And.intro hsome (And.intro m8a mha))
  clear hsome m8a mha hm8 hmh hs0 hf0 hl0 hN0
  by_cases hk : m8 - 2 < 1
  · go_enter Try.func9, Try.ntmps9
    go_wp2_with fail
    refine (sanity7_any w).mono ?_
    rintro e w1 ⟨rfl, hB1⟩
    have H1 := hide hB1
    clear hB1
    go_wp2_with fail
    refine (H0.out.1 w1 H1.out).mono ?_
    rintro e w2 ⟨v2, es, rfl, hown, hlen, hes, hB2⟩
    obtain ⟨A2, c2, rfl⟩ := hown.form
    obtain ⟨N2, hN2⟩ : ∃ N, N = es.length := ⟨_, rfl⟩
    rw [← hN2] at hown hlen ⊢
    have H2 := hide (And.intro (hown.sl encF_len (Nat.le_refl _)) (And.intro hN2 (And.intro hlen (And.intro (fun e he => (hes e he).fits) (H1.out.trans (hB2.mono H1.out.size))))))
    clear hown hN2 hlen hes hB2
    go_wp2_with fail
    refine (H0.out.2.1 w2).mono ?_
    rintro e w3 ⟨rfl, hw3⟩
    obtain rfl : w2 = w3 := hw3.symm
    go_wp2_with fail
    refine (Seal7_bad (m8 - 2) (by omega) A2 N2 c2 w2).mono ?_
    rintro e w4 ⟨rfl, hB4⟩
    have H4 := hide hB4
    clear hB4
    go_upto_region 5 with fail
    obtain ⟨X, hX⟩ : ∃ X, X = w4.alloc (.cells #[.int .i64 0, .slice none 0 0] 32) := ⟨_, rfl⟩
    rw [← hX]
    obtain ⟨hb, hB⟩ := box7 hX
    have HX := hide (And.intro hb (H4.out.trans (hB.mono H4.out.size)))
    clear hb hB hX
    go_wp2_with fail
    refine (H0.out.2.2 X).mono ?_
    rintro e w3 ⟨rfl, hw3⟩
    obtain rfl : X = w3 := hw3.symm
    go_wp2_with fail
    refine (Seal7_bad (9 + mh) (by omega) A2 N2 c2 X).mono ?_
    rintro e w5 ⟨rfl, hB5⟩
    have H5 := hide hB5
    clear hB5
    go_upto_region 6 with fail
    obtain ⟨Y, hY⟩ : ∃ Y, Y = w5.alloc (.cells #[.int .i64 0, .slice none 0 0] 32) := ⟨_, rfl⟩
    rw [← hY]
    obtain ⟨hb, hB⟩ := box7 hY
    have hB5 := H5.out.trans (hB.mono H5.out.size)
    obtain ⟨d0, d1⟩ := (HX.out.1.on hB5).two7
    obtain ⟨e0, e1⟩ := hb.two7
    have hB0 := HX.out.2.trans (hB5.mono HX.out.2.size)
    have HY := hide (And.intro (HX.out.1.on hB5) (And.intro hb hB0))
    clear hb hB hY hB5 hB0
    go_wp2_with fail
    refine (Odd7_as (k := N2) (m := 0) (Lz := m8 - 2) (l := es) (fs := []) H2.out.2.1 (if_neg (by omega)) rfl (by have := H2.out.2.2.1; omega) H2.out.2.2.2.1 A2 c2 Y (H2.out.1.on HY.out.2.2)).mono ?_
    rintro e w6 ⟨A6, c6, rfl, _, hB6⟩
    obtain ⟨d0, d1⟩ := (HY.out.1.on hB6).two7
    obtain ⟨e0, e1⟩ := (HY.out.2.1.on hB6).two7
    have HE := hide (H2.out.2.2.2.2.trans ((HY.out.2.2.trans (hB6.mono HY.out.2.2.size)).mono H2.out.2.2.2.2.size))
    clear hB6
    go_wp2_with fail
    go_ret
    exact ⟨rfl, HE.out⟩
  · have hL : 1 ≤ m8 - 2 ∧ m8 - 2 ≤ 8 := by omega
    obtain ⟨L, hLL⟩ : ∃ L : Nat, L = (m8 - 2).toNat := ⟨_, rfl⟩
    have hL2 : m8 - 2 = (L : Int) := by omega
    have hL5 : 1 ≤ L ∧ L ≤ 5 := by omega
    have hsd := side7_any (m8 - 2)
    rw [sideP_in hL, ← hLL] at hsd
    obtain ⟨n, s, q, m, hn, hs, hmm, hw1, hw2⟩ := lev_nums (L := L) hL5.2
    rw [← hn, ← hs] at hsd
    have HL := hide (And.intro hsd (And.intro hL2 (And.intro hL5 (And.intro hn hmm))))
    clear hsd hLL hL2 hL5 hn hmm hs hL
    go_enter Try.func9, Try.ntmps9
    go_wp2_with fail
    refine (sanity7_any w).mono ?_
    rintro e w1 ⟨rfl, hB1⟩
    have H1 := hide hB1
    clear hB1
    go_wp2_with fail
    refine (H0.out.1 w1 H1.out).mono ?_
    rintro e w2 ⟨v2, es, rfl, hown, hlen, hes, hB2⟩
    obtain ⟨A2, c2, rfl⟩ := hown.form
    obtain ⟨N2, hN2⟩ : ∃ N, N = es.length := ⟨_, rfl⟩
    rw [← hN2] at hown hlen ⊢
    have H2 := hide (And.intro (hown.sl encF_len (Nat.le_refl _)) (And.intro hN2 (And.intro hlen (And.intro (fun e he => (hes e he).fits) (H1.out.trans (hB2.mono H1.out.size))))))
    clear hown hN2 hlen hes hB2
    go_wp2_with fail
    refine (H0.out.2.1 w2).mono ?_
    rintro e w3 ⟨rfl, hw3⟩
    obtain rfl : w2 = w3 := hw3.symm
    go_wp2_with fail
    refine (Seal7_as (L := L) (n := n) (m := m) (k := N2) (l := es) (Lz := m8 - 2) HL.out.2.2.1.1 (by have := HL.out.2.2.1.2; omega) HL.out.2.1 HL.out.2.2.2.1 HL.out.2.2.2.2 H2.out.2.1 rfl rfl rfl (by have := H2.out.2.2.1; omega) H2.out.2.2.2.1 A2 c2 w2 H2.out.1).mono ?_
    rintro e w4 ⟨gi, A4, c4, rfl, _, _, _, hB4⟩
    obtain ⟨q4, hq4⟩ : ∃ q4, q4 = (pchsP n es).length := ⟨_, rfl⟩
    rw [← hq4]
    have H4 := hide hB4
    clear hB4 hq4
    go_upto_region 5 with fail
    obtain ⟨X, hX⟩ : ∃ X, X = w4.alloc (.cells #[.int .i64 (m8 - 2), .slice (some ⟨gi, 0, none⟩) m m] 32) := ⟨_, rfl⟩
    rw [← hX]
    obtain ⟨hb, hB⟩ := box7 hX
    have HX := hide (And.intro hb (H4.out.trans (hB.mono H4.out.size)))
    clear hb hB hX
    go_wp2_with fail
    refine (H0.out.2.2 X).mono ?_
    rintro e w3 ⟨rfl, hw3⟩
    obtain rfl : X = w3 := hw3.symm
    go_wp2_with fail
    refine (Seal7_bad (9 + mh) (by omega) A2 N2 c2 X).mono ?_
    rintro e w5 ⟨rfl, hB5⟩
    have H5 := hide hB5
    clear hB5
    go_upto_region 6 with fail
    obtain ⟨Y, hY⟩ : ∃ Y, Y = w5.alloc (.cells #[.int .i64 0, .slice none 0 0] 32) := ⟨_, rfl⟩
    rw [← hY]
    obtain ⟨hb, hB⟩ := box7 hY
    have hB5 := H5.out.trans (hB.mono H5.out.size)
    obtain ⟨d0, d1⟩ := (HX.out.1.on hB5).two7
    obtain ⟨e0, e1⟩ := hb.two7
    have HE := hide (H2.out.2.2.2.2.trans ((HX.out.2.trans (hB5.mono HX.out.2.size)).mono H2.out.2.2.2.2.size))
    clear hb hB hY hB5
    go_wp2_with fail
    refine (HL.out.1 Y).mono ?_
    rintro e w6 ⟨rfl, hw3⟩
    obtain rfl : Y = w6 := hw3.symm
    go_wp2_with fail
    go_ret
    exact ⟨rfl, HE.out⟩
end Go.Proofs.Ytdpgohpbannfnaa
