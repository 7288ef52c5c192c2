/- law07.agrees; SealFields: the walk. -/
import Derived.Test.YtdpgohpbannfnaaCS9S
namespace Go.Proofs.Ytdpgohpbannfnaa
open Go.RowKit Go.Sort Go.WideMaps Go.Maps
theorem sameFaces_as (q : Nat) (xs : List EF) (hq : q = xs.length) (A B : Option Addr) (c d n1 n2 : Nat) (w : World) (hx : Sl encF 4 w n1 A xs) (hy : Sl encF 4 w n2 B xs) (hl : xs.length ≤ 100000000) (hf : ∀ f ∈ xs, fitsF f) :
    Calls Try.prog 26 #[.slice A q c, .slice B q d] w fun e w' => e = .returned (.bool true) ∧ ∃ q, w' = w.drewN q := by
  subst hq
  exact sameFaces_true A B c d n1 n2 xs w hx hy hl hf
set_option maxRecDepth 100000 in
set_option maxHeartbeats 32000000 in
theorem agrees7_any {L : Nat} (hL1 : 1 ≤ L) (hL3 : L ≤ 3) (M : Nat) (A : Option Addr) (c : Nat) (l : List EF) (hM : M = l.length) (w : World) (hsl : Sl encF 4 w w.heap.size A l) (hl : l.length ≤ 10000) (hf : ∀ e ∈ l, fitsF e) :
    Calls Try.prog 12 #[.slice A M c, .int .i64 (L : Int)] w fun e w' => e = .returned (.bool true) ∧ Below w.heap.size w w' := by
  have hL8 : 1 ≤ (L : Int) ∧ (L : Int) ≤ 8 := by omega
  have hL8n : L ≤ 8 := by omega
  obtain ⟨n, s, q, m, hn, hs, hm, ⟨hs3, hs9, hm7⟩, _, _⟩ := lev_nums3 hL1 hL3
  have hmm : m = (n + 1) * (n + 1) * (n + 1) := by rw [hm, hs]
  have hn8 : n ≤ 8 := by omega
  have hseal := fun W (hW : Below w.heap.size w W) => Seal7_as (L := L) (n := n) (m := m) (k := M) (l := l) (F := fldP n l) (ps := pchsP n l) (q := (pchsP n l).length) (Lz := (L : Int)) hL1 hL8n rfl hn hmm hM rfl rfl rfl (by omega) hf A c W ((hsl.below hW).more hW.size)
  have hsealr := fun W (hW : Below w.heap.size w W) => Seal7r_any (L := L) hL8 hn hs hs9 (by omega) hm A c l W ((hsl.below hW).more hW.size) hl hf
  have hodd := fun W (hW : Below w.heap.size w W) => Odd7_as (k := M) (m := (oddP n l).length) (Lz := (L : Int)) (l := l) (fs := oddP n l) hM (by unfold oddV; rw [if_pos hL8, Int.toNat_natCast, ← hn]) rfl (by omega) hf A c W ((hsl.below hW).more hW.size)
  have hoddr := fun W (hW : Below w.heap.size w W) => Odd7r_any (L := L) hL8 hn hs hs9 (by omega) A c l W ((hsl.below hW).more hW.size) (by omega) hf
  rw [← hM] at hsealr hoddr
  obtain ⟨F, hF⟩ : ∃ F, F = fldP n l := ⟨_, rfl⟩
  obtain ⟨ps, hps⟩ : ∃ ps, ps = pchsP n l := ⟨_, rfl⟩
  obtain ⟨fs, hfs⟩ : ∃ fs, fs = oddP n l := ⟨_, rfl⟩
  have hmF : m = F.length := by rw [hF, fldP_len]; exact hmm
  have hpf : ∀ p ∈ ps, fitsPch p := by rw [hps]; exact pchs_fit (by omega) l
  have hpl : ps.length ≤ 100000000 := by rw [hps]; exact pchs_few hl
  have hff : ∀ f ∈ fs, fitsF f := by
    intro f hf
    rw [hfs] at hf
    have hg := (oddL_mem.1 hf).1
    unfold grdF at hg
    unfold fitsF fitsP fits
    omega
  have hfl : fs.length ≤ 100000000 := by rw [hfs]; exact Nat.le_trans (odd_few n l) (by omega)
  rw [← hF, ← hps] at hseal hsealr
  rw [← hfs] at hodd hoddr
  obtain ⟨q1, hq1⟩ : ∃ q, q = ps.length := ⟨_, rfl⟩
  obtain ⟨q2, hq2⟩ : ∃ q, q = fs.length := ⟨_, rfl⟩
  rw [← hq1] at hseal hsealr
  rw [← hq2] at hodd hoddr
  have H0 := hide (And.intro hseal (And.intro hsealr (And.intro hodd (And.intro hoddr (And.intro hmF (And.intro hpf (And.intro hpl (And.intro hff (And.intro hfl (And.intro hq1 hq2))))))))))
  clear hseal hsealr hodd hoddr hmF hpf hpl hff hfl hq1 hq2 hF hps hfs hmm hn hs hm hsl hl hf hM
  go_enter Try.func12, Try.ntmps12
  go_wp2_with fail
  refine (H0.out.1 w (Below.refl _ _)).mono ?_
  rintro e w1 ⟨g1, A1, c1, rfl, hr1, _, ho1, hB1⟩
  have H1 := hide (And.intro hr1 (And.intro ho1 hB1))
  clear hr1 ho1 hB1
  go_upto_region 2 with fail
  obtain ⟨X1, hX1⟩ : ∃ X, X = w1.alloc (.cells #[.int .i64 (L : Int), .slice (some ⟨g1, 0, none⟩) m m] 32) := ⟨_, rfl⟩
  rw [← hX1]
  obtain ⟨hb, hB⟩ := box7 hX1
  have K1 := hide (And.intro hb (And.intro (H1.out.1.on hB) (And.intro ((H1.out.2.1.below hB (Nat.le_refl _)).sl encPch_len (Nat.le_refl _)) (H1.out.2.2.trans (hB.mono H1.out.2.2.size)))))
  obtain ⟨n1, hn1⟩ : ∃ n, n = w1.heap.size := ⟨_, rfl⟩
  rw [← hn1] at K1 ⊢
  clear hb hB hX1 hn1
  go_wp2_with fail
  refine (H0.out.2.1 X1 K1.out.2.2.2).mono ?_
  rintro e w2 ⟨g2, pv, rfl, hr2, _, ho2, hB2⟩
  obtain ⟨A2, c2, rfl⟩ := ho2.form
  have H2 := hide (And.intro hr2 (And.intro ho2 hB2))
  clear hr2 ho2 hB2
  go_upto_region 3 with fail
  obtain ⟨X2, hX2⟩ : ∃ X, X = w2.alloc (.cells #[.int .i64 (L : Int), .slice (some ⟨g2, 0, none⟩) m m] 32) := ⟨_, rfl⟩
  rw [← hX2]
  obtain ⟨hb, hB⟩ := box7 hX2
  have hB2 := H2.out.2.2.trans (hB.mono H2.out.2.2.size)
  have hb1 := K1.out.1.on hB2
  obtain ⟨d0, d1⟩ := hb1.two7
  obtain ⟨e0, e1⟩ := hb.two7
  have hsf := sameField_as m (L : Int) g1 g2 m m F X2 (K1.out.2.1.on hB2) (H2.out.1.on hB) H0.out.2.2.2.2.1 (by have := H0.out.2.2.2.2.1; omega)
  have K2 := hide (And.intro hsf (And.intro (K1.out.2.2.1.on hB2) (And.intro ((H2.out.2.1.below hB (Nat.le_refl _)).sl encPch_len (Nat.le_refl _)) (K1.out.2.2.2.trans (hB2.mono K1.out.2.2.2.size)))))
  obtain ⟨n2, hn2⟩ : ∃ n, n = w2.heap.size := ⟨_, rfl⟩
  rw [← hn2] at e0 e1 ⊢
  clear hb hb1 hB hB2 hX2 hn2 hsf
  go_wp2_with fail
  refine K2.out.1.mono ?_
  rintro e w3 ⟨rfl, hB3⟩
  have K3 := hide (And.intro (K2.out.2.1.on hB3) (And.intro (K2.out.2.2.1.on hB3) (K2.out.2.2.2.trans (hB3.mono K2.out.2.2.2.size))))
  clear hB3 d0 d1 e0 e1
  go_wp2_with fail
  refine (samePatches_as q1 ps H0.out.2.2.2.2.2.2.2.2.2.1 _ _ _ _ _ _ w3 K3.out.1 K3.out.2.1 H0.out.2.2.2.2.2.2.1 H0.out.2.2.2.2.2.1).mono ?_
  rintro e w4 ⟨rfl, q4, rfl⟩
  have hB4 := below_drewN K3.out.2.2 q4
  have K4 := hide hB4
  obtain ⟨w4, hw4⟩ : ∃ w4, w4 = w3.drewN q4 := ⟨_, rfl⟩
  rw [← hw4] at K4 ⊢
  clear hB4 hw4
  go_wp2_with fail
  refine (H0.out.2.2.1 w4 K4.out).mono ?_
  rintro e w5 ⟨A5, c5, rfl, ho5, hB5⟩
  have K5 := hide (And.intro (ho5.sl encF_len (Nat.le_refl _)) (K4.out.trans (hB5.mono K4.out.size)))
  clear ho5 hB5
  go_wp2_with fail
  refine (H0.out.2.2.2.1 w5 K5.out.2).mono ?_
  rintro e w6 ⟨v6, rfl, ho6, hB6⟩
  obtain ⟨A6, c6, rfl⟩ := ho6.form
  have K6 := hide (And.intro (K5.out.1.on hB6) (And.intro (ho6.sl encF_len (Nat.le_refl _)) (K5.out.2.trans (hB6.mono K5.out.2.size))))
  clear ho6 hB6
  go_wp2_with fail
  refine (sameFaces_as q2 fs H0.out.2.2.2.2.2.2.2.2.2.2 _ _ _ _ _ _ w6 K6.out.1 K6.out.2.1 H0.out.2.2.2.2.2.2.2.2.1 H0.out.2.2.2.2.2.2.2.1).mono ?_
  rintro e w7 ⟨rfl, q7, rfl⟩
  go_wp2_with fail
  go_ret
  exact ⟨rfl, below_drewN K6.out.2.2 q7⟩
set_option maxRecDepth 100000 in
set_option maxHeartbeats 32000000 in
theorem fields7_walk (A0 : Option Addr) (c0 : Nat) (ns0 : List Int) (x1 : Int) (w : World) (hs0 : ns0 ≠ [] → Sl encZ 1 w w.heap.size A0 ns0) (hf0 : ∀ x ∈ ns0, fits x) (hl0 : ns0.length ≤ 9223372036854775807) (_hx1 : fits x1) :
    Calls Try.prog 3 #[.slice A0 ns0.length c0, .int .i64 x1] w fun e w' => e = .returned (.bool true) ∧ Below w.heap.size w w' := by
  have hsome := fun (W : World) (hW : Below w.heap.size w W) => some7_any A0 c0 ns0 x1 W (fun hne => ((hs0 hne).below hW).more hW.size) hf0 hl0
  obtain ⟨N0, hN0⟩ : ∃ N, N = ns0.length := ⟨_, rfl⟩
  rw [← hN0] at hsome ⊢
  have hlev := level7_any x1
  obtain ⟨hL1, hL3⟩ := levP_bound x1
  obtain ⟨L, hL⟩ : ∃ L, L = levP x1 := ⟨_, rfl⟩
  rw [← hL] at hlev hL1 hL3
  have H0 := hide (And.intro hsome (And.intro hlev (And.intro hL1 hL3)))
  clear hsome hlev hL1 hL3 hL hs0 hf0 hl0 hN0
  go_enter Try.func3, Try.ntmps3
  go_wp2_with fail
  refine (sanity7_any w).mono ?_
  rintro e w1 ⟨rfl, hB1⟩
  have H1 := hide hB1
  clear hB1
  go_wp2_with fail
  refine (H0.out.1 w1 H1.out).mono ?_
  rintro e w3 ⟨v2, es, rfl, hown, hlen, hes, hB2⟩
  obtain ⟨A2, c2, rfl⟩ := hown.form
  obtain ⟨N2, hN2⟩ : ∃ N, N = es.length := ⟨_, rfl⟩
  rw [← hN2] at hown hlen ⊢
  have H2 := hide (And.intro (hown.sl encF_len (Nat.le_refl _)) (And.intro hN2 (And.intro hlen (And.intro (some_list hes) (H1.out.trans (hB2.mono H1.out.size))))))
  clear hown hN2 hlen hes hB2
  go_wp2_with fail
  refine (H0.out.2.1 w3).mono ?_
  rintro e w2 ⟨rfl, hw3⟩
  obtain rfl : w3 = w2 := hw3.symm
  go_wp2_with fail
  refine (agrees7_any H0.out.2.2.1 H0.out.2.2.2 N2 A2 c2 es H2.out.2.1 w3 H2.out.1 (by have h1 := H2.out.2.1; have h2 := H2.out.2.2.1; omega) H2.out.2.2.2.1).mono ?_
  rintro e w4 ⟨rfl, hB4⟩
  have HE := hide (H2.out.2.2.2.2.trans (hB4.mono H2.out.2.2.2.2.size))
  clear hB4
  go_wp2_with fail
  go_ret
  exact ⟨rfl, HE.out⟩
end Go.Proofs.Ytdpgohpbannfnaa
