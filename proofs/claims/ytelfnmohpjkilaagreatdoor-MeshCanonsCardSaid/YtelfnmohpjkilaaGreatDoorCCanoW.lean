/- law04.MeshCanons. -/
import Derived.Test.YtelfnmohpjkilaaGreatDoorCB20
import Derived.Test.YtelfnmohpjkilaaGreatDoorCB22
import Derived.Test.YtelfnmohpjkilaaGreatDoorCTri
namespace Go.Proofs.YtelfnmohpjkilaaGreatDoor
open Go.RowKit Go.Sort
set_option maxRecDepth 100000 in
set_option maxHeartbeats 32000000 in
theorem canons_of (hsan : ∀ W : World, Calls Tryz.prog 12 #[] W fun e w' => e = .returned (.bool true) ∧ Below W.heap.size W w') (op : Bool) (b0 : Nat) (A : Option Addr) (c : Nat) (ns : List Int) (s0 s1 s2 s3 s4 s5 : Int) (A9 : Option Addr) (c9 : Nat) (rs : List Pt) (q0 q1 q2 : Int) (w : World) (hb0 : b0 < 4294967296) (hs : ns ≠ [] → Sl encZ4 1 w w.heap.size A ns) (hf : ∀ n ∈ ns, fits n) (hlc : ns.length ≤ c) (hlm : ns.length ≤ 9223372036854775807)
    (hs9 : rs ≠ [] → Sl encR3 3 w w.heap.size A9 rs) (hf9 : ∀ r ∈ rs, fitsP r) (hl9 : rs.length ≤ 9223372036854775807) :
    Calls Tryz.prog 6 #[.agg (vSh op b0 A ns.length c s0 s1 s2 s3 s4 s5), .slice A9 rs.length c9, .agg #[.int .i64 q0, .int .i64 q1, .int .i64 q2]] w fun e w' => e = .returned (.bool true) ∧ Below w.heap.size w w' := by
  have htr := fun W (hW : Below w.heap.size w W) => tris_any op b0 A c ns s0 s1 s2 s3 s4 s5 W hb0 (fun h => ((hs h).below hW).more hW.size) hf hlc hlm
  have hrw := fun W (hW : Below w.heap.size w W) => raw_any A9 c9 rs W (fun h => ((hs9 h).below hW).more hW.size) hf9 hl9
  obtain ⟨M, hM⟩ : ∃ M, M = ns.length := ⟨_, rfl⟩
  obtain ⟨M9, hM9⟩ : ∃ M, M = rs.length := ⟨_, rfl⟩
  simp only [← hM] at htr ⊢
  simp only [← hM9] at hrw ⊢
  have HT := hide (And.intro htr hrw)
  have HS := hide hsan
  clear htr hrw hsan hs hf hM hlc hlm hs9 hf9 hl9 hM9
  go_enter Tryz.func6, Tryz.ntmps6
  go_upto_region 1 with fail
  obtain ⟨xb, hxb⟩ : ∃ g, g = w.heap.size := ⟨_, rfl⟩
  obtain ⟨qb, hqb⟩ : ∃ g, g = w.heap.size + 1 := ⟨_, rfl⟩
  obtain ⟨W0, hW0⟩ : ∃ W, W = (w.alloc (.cells (vSh op b0 A M c s0 s1 s2 s3 s4 s5) 26)).alloc (.cells #[.int .i64 q0, .int .i64 q1, .int .i64 q2] 49) := ⟨_, rfl⟩
  rw [← hW0, ← hqb, ← hxb]
  have hbx : Blk W0 xb 26 (vSh op b0 A M c s0 s1 s2 s3 s4 s5) := by rw [hW0, hxb]; exact (Blk.new _ _ _).alloc _
  have hbq : Blk W0 qb 49 #[.int .i64 q0, .int .i64 q1, .int .i64 q2] := by rw [hW0, hqb]; exact Blk.new' _ _ _ _ (by simp)
  have hB0 : Below w.heap.size w W0 := by rw [hW0]; exact ((Below.refl _ w).alloc (Nat.le_refl _) _).alloc (by simp) _
  have H0 := hide (And.intro hbx (And.intro hbq hB0))
  clear hbx hbq hB0 hW0 hxb hqb
  go_upto_region 2 with (go_at_call 12; refine (HS.out W0).mono ?_; rintro e X ⟨rfl, hB⟩; have h1 := H0.out.1.below hB H0.out.1.lt; have h3 := H0.out.2.1.below hB H0.out.2.1.lt; have h2 := H0.out.2.2.trans (hB.mono H0.out.2.2.size); have H1 := hide (And.intro h1 (And.intro h3 h2)); clear h1 h2 h3 hB)
  have x0 : X.cell? ⟨xb, 0, none⟩ = some (.bool op) := H1.out.1.cell 0
  have x1 : X.cell? ⟨xb, 1, none⟩ = some (.int .u32 b0) := H1.out.1.cell 1
  have x2 : X.cell? ⟨xb, 2, none⟩ = some (.slice A M c) := H1.out.1.cell 2
  have x3 : X.cell? ⟨xb, 3, none⟩ = some (.int .i64 s0) := H1.out.1.cell 3
  have x4 : X.cell? ⟨xb, 4, none⟩ = some (.int .i64 s1) := H1.out.1.cell 4
  have x5 : X.cell? ⟨xb, 5, none⟩ = some (.int .i64 s2) := H1.out.1.cell 5
  have x6 : X.cell? ⟨xb, 6, none⟩ = some (.int .i64 s3) := H1.out.1.cell 6
  have x7 : X.cell? ⟨xb, 7, none⟩ = some (.int .i64 s4) := H1.out.1.cell 7
  have x8 : X.cell? ⟨xb, 8, none⟩ = some (.int .i64 s5) := H1.out.1.cell 8
  have hxl := H1.out.1.lt
  go_wp2_with (first
    | (go_at_call 24; refine (HT.out.2 Y1 H2.out.2.2.2.2).mono ?_; rintro e Y ⟨v, rfl, L2, ho, hl, hf, hB⟩; obtain ⟨TB, td, rfl⟩ := ho.form; have h1 := ho.sl encT_len (Nat.le_refl _); have h2 := (H2.out.2.1.below hB).more hB.size; have h3 := H2.out.1.below hB H2.out.1.lt; have H3 := hide (And.intro h3 (And.intro h2 (And.intro H2.out.2.2.1 (And.intro H2.out.2.2.2.1 (And.intro h1 (And.intro hl (And.intro hf (H2.out.2.2.2.2.trans (hB.mono H2.out.2.2.2.2.size))))))))); clear ho hl hf hB h1 h2 h3)
    | (go_at_call 13; refine (HT.out.1 X H1.out.2.2).mono ?_; rintro e Y1 ⟨v, rfl, L1, ho, hl, hf, hB⟩; obtain ⟨TA, tc, rfl⟩ := ho.form; have h1 := ho.sl encT_len (Nat.le_refl _); have h3 := H1.out.2.1.below hB H1.out.2.1.lt; have H2 := hide (And.intro h3 (And.intro h1 (And.intro hl (And.intro hf (H1.out.2.2.trans (hB.mono H1.out.2.2.size)))))); clear ho hl hf hB h1 h3))
  clear x0 x1 x2 x3 x4 x5 x6 x7 x8 hxl H1 H0 H2
  obtain ⟨N1, hN1⟩ : ∃ n, n = L1.length := ⟨_, rfl⟩
  obtain ⟨N2, hN2⟩ : ∃ n, n = L2.length := ⟨_, rfl⟩
  rw [← hN1, ← hN2]
  obtain ⟨lb, hlb⟩ : ∃ g, g = Y.heap.size := ⟨_, rfl⟩
  obtain ⟨G, hG⟩ : ∃ W, W = Y.alloc (.cells #[.slice TA N1 tc, .slice TB N2 td] 28) := ⟨_, rfl⟩
  rw [← hG, ← hlb]
  have hBG : Below Y.heap.size Y G := by rw [hG]; exact (Below.refl _ Y).alloc (Nat.le_refl _) _
  have hbl : Blk G lb 28 #[.slice TA N1 tc, .slice TB N2 td] := by rw [hG, hlb]; exact Blk.new _ _ _
  have hbq := H3.out.1.below hBG H3.out.1.lt
  have hel : ∀ i : Nat, i < 2 → ∃ (T : Option Addr) (N t : Nat) (L : List Tri), (∀ W, Below G.heap.size G W → W.cell? ⟨lb, i, none⟩ = some (.slice T N t)) ∧ N = L.length ∧ Sl encT 9 G G.heap.size T L ∧ L.length ≤ 401 ∧ FitL L := fun i hi => by
    have hc : i = 0 ∨ i = 1 := by omega
    rcases hc with rfl | rfl
    · exact ⟨TA, N1, tc, L1, fun W h => (hbl.below h hbl.lt).cell 0, hN1, (H3.out.2.1.below hBG).more hBG.size, H3.out.2.2.1, H3.out.2.2.2.1⟩
    · exact ⟨TB, N2, td, L2, fun W h => (hbl.below h hbl.lt).cell 1, hN2, (H3.out.2.2.2.2.1.below hBG).more hBG.size, by have := H3.out.2.2.2.2.2.1; omega, H3.out.2.2.2.2.2.2.1⟩
  have HG := hide (And.intro hel (And.intro hbq (And.intro (H3.out.2.2.2.2.2.2.2.trans (hBG.mono H3.out.2.2.2.2.2.2.2.size)) hbl.lt)))
  clear hel hbq hBG hbl hG hlb H3 hN1 hN2
  go_loopw [18] (fun iv wr => ∃ i : Nat, i ≤ 2 ∧ iv = .int .i64 i ∧ Below G.heap.size G wr) (fun iv _ => 2 - (intOf iv).toNat)
  case atStart => exact ⟨0, by omega, rfl, Below.refl _ G⟩
  case round =>
    obtain ⟨i, hi, rfl, hB⟩ := hrel
    obtain ⟨V, rfl⟩ : ∃ x, x = wr := ⟨_, rfl⟩
    by_cases hlt : i < 2
    · have i1 : (i : Int) < 2 := by omega
      obtain ⟨T, N, t, L, hc, hN, hsl, hlen, hfit⟩ := HG.out.1 i hlt
      have hc0 := hc V hB
      have hqV := HG.out.2.1.below hB HG.out.2.1.lt
      have y0 : V.cell? ⟨qb, 0, none⟩ = some (.int .i64 q0) := hqV.cell 0
      have y1 : V.cell? ⟨qb, 1, none⟩ = some (.int .i64 q1) := hqV.cell 1
      have y2 : V.cell? ⟨qb, 2, none⟩ = some (.int .i64 q2) := hqV.cell 2
      have hlbV : lb < V.heap.size := by have := HG.out.2.2.2; have := hB.size; omega
      have hqlt := hqV.lt
      have hslV : Sl encT 9 V V.heap.size T L := (hsl.below hB).more hB.size
      have ks := spoiled_any T t L q0 q1 q2 V hslV (by omega) hfit
      rw [← hN] at ks
      have HK := hide (And.intro ks (And.intro hslV (And.intro hfit (And.intro hN (And.intro hlen hB)))))
      clear ks hslV hfit hN hlen hB hc hsl hqV
      go_upto_region 6 with (go_at_call 28; refine HK.out.1.mono ?_; rintro e Z ⟨v, rfl, LS, ho, hl, hf, hB⟩; obtain ⟨SA, sc, rfl⟩ := ho.form; have h1 := ho.sl encT_len (Nat.le_refl _); have h2 := (HK.out.2.1.below hB).more hB.size; have H5 := hide (And.intro h1 (And.intro hl (And.intro hf (And.intro h2 hB)))); clear ho hl hf hB h1 h2)
      obtain ⟨NS, hNS⟩ : ∃ n, n = LS.length := ⟨_, rfl⟩
      have hl1 : LS.length ≤ 402 := by have := H5.out.2.1; have := HK.out.2.2.2.1; have := HK.out.2.2.2.2.1; omega
      have hslS : ∀ W, Below Z.heap.size Z W → Sl encT 9 W W.heap.size SA LS := fun W h => (H5.out.1.below h).more h.size
      have hslT : ∀ W, Below Z.heap.size Z W → Sl encT 9 W W.heap.size T L := fun W h => (H5.out.2.2.2.1.below h).more h.size
      have hN := HK.out.2.2.2.1
      have hln := HK.out.2.2.2.2.1
      have hfL := HK.out.2.2.1
      have hfS := H5.out.2.2.1
      obtain ⟨b, hb⟩ : ∃ b, b = decide (canonO LS = canonO L) := ⟨_, rfl⟩
      have hcl : (canonO L).length = N := by rw [canonO_length, hN]
      have hfC := fitsT_canon hfL
      have kA : ∀ W, Below Z.heap.size Z W → Calls Tryz.prog 30 #[.slice T N t] W fun e w' => ∃ A c, e = .returned (.slice A N c) ∧ Sl encT 9 w' w'.heap.size A (canonO L) ∧ Below W.heap.size W w' := fun W h => by
        have k := canon_own T t L W (hslT W h) (by omega)
        simp only [canonTO] at k
        rw [← hN] at k
        refine Calls.mono k ?_
        rintro e w' ⟨v, rfl, ho, hB⟩
        obtain ⟨A, c, rfl⟩ := ho.form
        exact ⟨A, c, rfl, ho.sl encT_len (Nat.le_refl _), hB⟩
      have kB : ∀ W, Below Z.heap.size Z W → Calls Tryz.prog 31 #[.slice T N t] W fun e w' => ∃ A c, e = .returned (.slice A N c) ∧ Sl encT 9 w' w'.heap.size A (canonO L) ∧ Below W.heap.size W w' := fun W h => by
        have k := canon04_any T t L W (hslT W h) (by omega) hfL
        rw [← hN] at k
        refine Calls.mono k ?_
        rintro e w' ⟨A, c, rfl, hB, h1, _⟩
        exact ⟨A, c, rfl, h1, hB⟩
      have kE : ∀ (A B : Option Addr) (c d : Nat) W n1 n2, Sl encT 9 W n1 A (canonO L) → Sl encT 9 W n2 B (canonO L) → Calls Tryz.prog 29 #[.slice A N c, .slice B N d] W fun e w' => e = .returned (.bool true) ∧ ∃ k, w' = W.drewN k := fun A B c d W n1 n2 h1 h2 => by
        have k := equal_any A B c d (canonO L) (canonO L) W n1 n2 h1 h2 (by omega) (by omega) hfC hfC
        rw [hcl, decide_eq_true (rfl : canonO L = canonO L)] at k; exact k
      have kM : ∀ W, Below Z.heap.size Z W → Calls Tryz.prog 32 #[.slice SA NS sc, .slice T N t] W fun e w' => e = .returned (.bool b) ∧ Below W.heap.size W w' := fun W h => by
        have k := meshSame_any SA T sc t LS L W (hslS W h) (hslT W h) (by omega) (by omega) hfS hfL
        rw [← hN, ← hNS, ← hb] at k; exact k
      have kS : ∀ W, Below Z.heap.size Z W → Calls Tryz.prog 33 #[.slice SA NS sc, .slice T N t] W fun e w' => e = .returned (.bool b) ∧ Below W.heap.size W w' := fun W h => by
        have k := same04_any SA T sc t LS L W (hslS W h) (hslT W h) (by omega) (by omega) hfS hfL
        rw [← hN, ← hNS, ← hb] at k; exact k
      have kT : ∀ W, Below Z.heap.size Z W → Calls Tryz.prog 32 #[.slice T N t, .slice T N t] W fun e w' => e = .returned (.bool true) ∧ Below W.heap.size W w' := fun W h => by
        have k := meshSame_any T T t t L L W (hslT W h) (hslT W h) (by omega) (by omega) hfL hfL
        rw [← hN, decide_eq_true (rfl : canonO L = canonO L)] at k; exact k
      have K := hide (And.intro kA (And.intro kB (And.intro kE (And.intro kM (And.intro kS kT)))))
      have HZ := hide (HK.out.2.2.2.2.2.trans (H5.out.2.2.2.2.mono HK.out.2.2.2.2.2.size))
      obtain ⟨CL, hCL⟩ : ∃ l, l = canonO L := ⟨_, rfl⟩
      rw [← hCL] at K
      rw [← hNS]
      clear kA kB kE kM kS kT hslS hslT hN hln hfL hfS hb hcl hfC H5 HK hl1 hNS hCL
      have hbb : (b != b) = false := by cases b <;> rfl
      go_wp2_with (first
        | (go_at_call 32; refine (K.out.2.2.2.2.2 W5 J5.out).mono ?_; rintro e W6 ⟨rfl, hB⟩; have J6 := hide (J5.out.trans (hB.mono J5.out.size)); clear hB)
        | (go_at_call 33; refine (K.out.2.2.2.2.1 W4 J4.out).mono ?_; rintro e W5 ⟨rfl, hB⟩; have J5 := hide (J4.out.trans (hB.mono J4.out.size)); clear hB)
        | (go_at_call 32; refine (K.out.2.2.2.1 W3 J3.out).mono ?_; rintro e W4 ⟨rfl, hB⟩; have J4 := hide (J3.out.trans (hB.mono J3.out.size)); clear hB)
        | (go_at_call 29; refine (K.out.2.2.1 A1 A2 c1 c2 W2 _ _ J2.out.2.1 J2.out.2.2).mono ?_; rintro e W3 ⟨rfl, kd, hw⟩; have J3 := hide (show Below Z.heap.size Z W3 by rw [hw]; exact below_drewN J2.out.1 kd); clear hw)
        | (go_at_call 31; refine (K.out.2.1 W1 J1.out.1).mono ?_; rintro e W2 ⟨A2, c2, rfl, hx, hB⟩; have J2 := hide (And.intro (J1.out.1.trans (hB.mono J1.out.1.size)) (And.intro (J1.out.2.below hB) hx)); clear hB hx)
        | (go_at_call 30; refine (K.out.1 Z (Below.refl _ Z)).mono ?_; rintro e W1 ⟨A1, c1, rfl, hx, hB⟩; have J1 := hide (And.intro hB hx); clear hB hx))
      have HJ := hide (HZ.out.trans (J6.out.mono HZ.out.size))
      go_roundw
      case rel => exact ⟨i + 1, by omega, by go_num, HJ.out⟩
      case measure => (simp [intOf]; try omega)
    · obtain rfl : i = 2 := by omega
      have i1 : ¬ ((2 : Nat) : Int) < 2 := by omega
      have HB := hide (HG.out.2.2.1.trans (hB.mono HG.out.2.2.1.size))
      clear hB
      go_wp2
      go_ret
      exact ⟨rfl, HB.out⟩
end Go.Proofs.YtelfnmohpjkilaaGreatDoor
