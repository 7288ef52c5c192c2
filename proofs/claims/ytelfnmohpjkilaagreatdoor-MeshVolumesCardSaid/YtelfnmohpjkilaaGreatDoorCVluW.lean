/- law04.MeshVolumes (printed by mk_Vlu.py out of XCanoW). -/
import Derived.Test.YtelfnmohpjkilaaGreatDoorCB22
import Derived.Test.YtelfnmohpjkilaaGreatDoorCB27
import Derived.Test.YtelfnmohpjkilaaGreatDoorCTri
import Derived.Test.YtelfnmohpjkilaaGreatDoorCWdJ
import Derived.Test.YtelfnmohpjkilaaGreatDoorCWnD
import Derived.Test.YtelfnmohpjkilaaGreatDoorCMoved
namespace Go.Proofs.YtelfnmohpjkilaaGreatDoor
open Go.RowKit Go.Sort
theorem vol6_P (l : List Tri) : vol6 l = volP l := by
  induction l with
  | nil => rfl
  | cons t l ih =>
    rw [vol6, volP_cons, ih]
    congr 1
    unfold detV detT detP
    grind
theorem wideN_size5 {b : Bool} {s : ByteArray} {x : Int} (h : WideN (.agg #[.bool b, .string s]) x) (hx : x.natAbs < 256 ^ 100) : s.size ≤ maxLen := by
  obtain ⟨neg, l, e, _, tl, hl, _⟩ := h
  simp [nvalV] at e
  obtain ⟨_, rfl⟩ := e
  rw [hl, intG_abs] at hx
  have := g_len tl hx
  rw [strL_size, List.length_reverse]
  unfold maxLen
  omega
theorem vol_small {L : List Tri} (hf : ∀ t ∈ L, fitsT t) (hl : L.length ≤ 1000) : (vol6 L).natAbs < 256 ^ 100 := by
  rw [vol6_P]
  have h := volP_absI hf L.length (Nat.le_refl _)
  rw [List.take_length] at h
  omega
theorem movT_fits (v : Pt) (t : Tri) : fitsT (movT v t) := by
  have hw : ∀ x : Int, fits (wrap64 x) := fun x => by unfold fits wrap64; omega
  exact ⟨⟨hw _, hw _, hw _⟩, ⟨hw _, hw _, hw _⟩, hw _, hw _, hw _⟩
theorem wide_pair {b c : Bool} {s u : ByteArray} {x : Int} (h : WideN (.agg #[.bool b, .string s]) x) (k : WideN (.agg #[.bool c, .string u]) x) : b = c ∧ s = u := by
  have := h.uniq k
  simpa using this
theorem vol_p {L : List Tri} (hf : ∀ t ∈ L, fitsT t) (hl : L.length ≤ 1000) (A : Option Addr) (c : Nat) (W : World) (hs : Sl encT 9 W W.heap.size A L) :
    Calls Tryz.prog 26 #[.slice A L.length c] W fun e w' => ∃ b s, e = .returned (.agg #[.bool b, .string s]) ∧ WideN (.agg #[.bool b, .string s]) (vol6 L) ∧ Below W.heap.size W w' := by
  refine (volume4_any A c L W hs (by omega) hf).mono ?_
  rintro e w' ⟨v, rfl, hv, hB⟩
  obtain ⟨b, s, rfl⟩ := hv.form
  exact ⟨b, s, rfl, hv, hB⟩
theorem vol_r {L : List Tri} (hf : ∀ t ∈ L, fitsT t) (hl : L.length ≤ 1000) (A : Option Addr) (c : Nat) (W : World) (hs : Sl encT 9 W W.heap.size A L) :
    Calls Tryz.prog 27 #[.slice A L.length c] W fun e w' => ∃ b s, e = .returned (.agg #[.bool b, .string s]) ∧ WideN (.agg #[.bool b, .string s]) (vol6 L) ∧ Below W.heap.size W w' := by
  refine (volumeI_any A c L W hs (by omega) hf).mono ?_
  rintro e w' ⟨b, s, rfl, hv, hB⟩
  rw [← vol6_P] at hv
  exact ⟨b, s, rfl, hv.toN, hB⟩
set_option maxRecDepth 100000 in
set_option maxHeartbeats 32000000 in
theorem volumes_of (hsan : ∀ W : World, Calls Tryz.prog 12 #[] W fun e w' => e = .returned (.bool true) ∧ Below W.heap.size W w') (op : Bool) (b0 : Nat) (A : Option Addr) (c : Nat) (ns : List Int) (s0 s1 s2 s3 s4 s5 : Int) (A9 : Option Addr) (c9 : Nat) (rs : List Pt) (q0 q1 q2 : Int) (w : World) (hb0 : b0 < 4294967296) (hs : ns ≠ [] → Sl encZ4 1 w w.heap.size A ns) (hf : ∀ n ∈ ns, fits n) (hlc : ns.length ≤ c) (hlm : ns.length ≤ 9223372036854775807)
    (hs9 : rs ≠ [] → Sl encR3 3 w w.heap.size A9 rs) (hf9 : ∀ r ∈ rs, fitsP r) (hl9 : rs.length ≤ 9223372036854775807) :
    Calls Tryz.prog 5 #[.agg (vSh op b0 A ns.length c s0 s1 s2 s3 s4 s5), .slice A9 rs.length c9, .agg #[.int .i64 q0, .int .i64 q1, .int .i64 q2]] w fun e w' => e = .returned (.bool true) ∧ Below w.heap.size w w' := by
  have htr := fun W (hW : Below w.heap.size w W) => tris_any op b0 A c ns s0 s1 s2 s3 s4 s5 W hb0 (fun h => ((hs h).below hW).more hW.size) hf hlc hlm
  have hrw := fun W (hW : Below w.heap.size w W) => raw_any A9 c9 rs W (fun h => ((hs9 h).below hW).more hW.size) hf9 hl9
  obtain ⟨M, hM⟩ : ∃ M, M = ns.length := ⟨_, rfl⟩
  obtain ⟨M9, hM9⟩ : ∃ M, M = rs.length := ⟨_, rfl⟩
  simp only [← hM] at htr ⊢
  simp only [← hM9] at hrw ⊢
  have HT := hide (And.intro htr hrw)
  have HS := hide hsan
  clear htr hrw hsan hs hf hM hlc hlm hs9 hf9 hl9 hM9
  go_enter Tryz.func5, Tryz.ntmps5
  go_upto_region 1 with fail
  obtain ⟨xb, hxb⟩ : ∃ g, g = w.heap.size := ⟨_, rfl⟩
  obtain ⟨qb, hqb⟩ : ∃ g, g = w.heap.size + 1 := ⟨_, rfl⟩
  obtain ⟨W0, hW0⟩ : ∃ W, W = (w.alloc (.cells (vSh op b0 A M c s0 s1 s2 s3 s4 s5) 26)).alloc (.cells #[.int .i64 q0, .int .i64 q1, .int .i64 q2] 41) := ⟨_, rfl⟩
  rw [← hW0, ← hqb, ← hxb]
  have hbx : Blk W0 xb 26 (vSh op b0 A M c s0 s1 s2 s3 s4 s5) := by rw [hW0, hxb]; exact (Blk.new _ _ _).alloc _
  have hbq : Blk W0 qb 41 #[.int .i64 q0, .int .i64 q1, .int .i64 q2] := by rw [hW0, hqb]; exact Blk.new' _ _ _ _ (by simp)
  have hB0 : Below w.heap.size w W0 := by rw [hW0]; exact ((Below.refl _ w).alloc (Nat.le_refl _) _).alloc (by simp) _
  have H0 := hide (And.intro hbx (And.intro hbq hB0))
  clear hbx hbq hB0 hW0 hxb hqb
  go_upto_region 2 with (go_at_call 12; refine (HS.out W0).mono ?_; rintro e X ⟨rfl, hB⟩; have h1 := H0.out.1.below hB H0.out.1.lt; have h3 := H0.out.2.1.below hB H0.out.2.1.lt; have h2 := H0.out.2.2.trans (hB.mono H0.out.2.2.size); have H1 := hide (And.intro h1 (And.intro h3 h2)); clear h1 h2 h3 hB)
  have x0 : X.cell? ⟨xb, 0, none⟩ = some (.bool op) := H1.out.1.cell 0
  have x1 : X.cell? ⟨xb, 1, none⟩ = some (.int .u32 b0) := H1.out.1.cell 1
  have x2 : X.cell? ⟨xb, 2, none⟩ = some (.slice A M c) := H1.out.1.cell 2
  have x3 : X.cell? ⟨xb, 3, none⟩ = some (.int .i64 s0) := H1.out.1.cell 3
  have x4 : X.cell? ⟨xb, 4, none⟩ = some (.int .i64 s1) := H1.out.1.cell 4
  have x5 : X.cell? ⟨xb, 5, none⟩ = some (.int .i64 s2) := H1.out.1.cell 5
  have x6 : X.cell? ⟨xb, 6, none⟩ = some (.int .i64 s3) := H1.out.1.cell 6
  have x7 : X.cell? ⟨xb, 7, none⟩ = some (.int .i64 s4) := H1.out.1.cell 7
  have x8 : X.cell? ⟨xb, 8, none⟩ = some (.int .i64 s5) := H1.out.1.cell 8
  have hxl := H1.out.1.lt
  go_wp2_with (first
    | (go_at_call 24; refine (HT.out.2 Y1 H2.out.2.2.2.2).mono ?_; rintro e Y ⟨v, rfl, L2, ho, hl, hf, hB⟩; obtain ⟨TB, td, rfl⟩ := ho.form; have h1 := ho.sl encT_len (Nat.le_refl _); have h2 := (H2.out.2.1.below hB).more hB.size; have h3 := H2.out.1.below hB H2.out.1.lt; have H3 := hide (And.intro h3 (And.intro h2 (And.intro H2.out.2.2.1 (And.intro H2.out.2.2.2.1 (And.intro h1 (And.intro hl (And.intro hf (H2.out.2.2.2.2.trans (hB.mono H2.out.2.2.2.2.size))))))))); clear ho hl hf hB h1 h2 h3)
    | (go_at_call 13; refine (HT.out.1 X H1.out.2.2).mono ?_; rintro e Y1 ⟨v, rfl, L1, ho, hl, hf, hB⟩; obtain ⟨TA, tc, rfl⟩ := ho.form; have h1 := ho.sl encT_len (Nat.le_refl _); have h3 := H1.out.2.1.below hB H1.out.2.1.lt; have H2 := hide (And.intro h3 (And.intro h1 (And.intro hl (And.intro hf (H1.out.2.2.trans (hB.mono H1.out.2.2.size)))))); clear ho hl hf hB h1 h3))
  clear x0 x1 x2 x3 x4 x5 x6 x7 x8 hxl H1 H0 H2
  obtain ⟨N1, hN1⟩ : ∃ n, n = L1.length := ⟨_, rfl⟩
  obtain ⟨N2, hN2⟩ : ∃ n, n = L2.length := ⟨_, rfl⟩
  rw [← hN1, ← hN2]
  obtain ⟨lb, hlb⟩ : ∃ g, g = Y.heap.size := ⟨_, rfl⟩
  obtain ⟨G, hG⟩ : ∃ W, W = Y.alloc (.cells #[.slice TA N1 tc, .slice TB N2 td] 28) := ⟨_, rfl⟩
  rw [← hG, ← hlb]
  have hBG : Below Y.heap.size Y G := by rw [hG]; exact (Below.refl _ Y).alloc (Nat.le_refl _) _
  have hbl : Blk G lb 28 #[.slice TA N1 tc, .slice TB N2 td] := by rw [hG, hlb]; exact Blk.new _ _ _
  have hbq := H3.out.1.below hBG H3.out.1.lt
  have hel : ∀ i : Nat, i < 2 → ∃ (T : Option Addr) (N t : Nat) (L : List Tri), (∀ W, Below G.heap.size G W → W.cell? ⟨lb, i, none⟩ = some (.slice T N t)) ∧ N = L.length ∧ Sl encT 9 G G.heap.size T L ∧ L.length ≤ 401 ∧ FitL L := fun i hi => by
    have hc : i = 0 ∨ i = 1 := by omega
    rcases hc with rfl | rfl
    · exact ⟨TA, N1, tc, L1, fun W h => (hbl.below h hbl.lt).cell 0, hN1, (H3.out.2.1.below hBG).more hBG.size, H3.out.2.2.1, H3.out.2.2.2.1⟩
    · exact ⟨TB, N2, td, L2, fun W h => (hbl.below h hbl.lt).cell 1, hN2, (H3.out.2.2.2.2.1.below hBG).more hBG.size, by have := H3.out.2.2.2.2.2.1; omega, H3.out.2.2.2.2.2.2.1⟩
  have HG := hide (And.intro hel (And.intro hbq (And.intro (H3.out.2.2.2.2.2.2.2.trans (hBG.mono H3.out.2.2.2.2.2.2.2.size)) hbl.lt)))
  clear hel hbq hBG hbl hG hlb H3 hN1 hN2
  go_loopw [18] (fun iv wr => ∃ i : Nat, i ≤ 2 ∧ iv = .int .i64 i ∧ Below G.heap.size G wr) (fun iv _ => 2 - (intOf iv).toNat)
  case atStart => exact ⟨0, by omega, rfl, Below.refl _ G⟩
  case round =>
    obtain ⟨i, hi, rfl, hB⟩ := hrel
    obtain ⟨V, rfl⟩ : ∃ x, x = wr := ⟨_, rfl⟩
    by_cases hlt : i < 2
    · have i1 : (i : Int) < 2 := by omega
      obtain ⟨T, N, t, L, hc, hN, hsl, hlen, hfit⟩ := HG.out.1 i hlt
      have hc0 := hc V hB
      have hqV := HG.out.2.1.below hB HG.out.2.1.lt
      have y0 : V.cell? ⟨qb, 0, none⟩ = some (.int .i64 q0) := hqV.cell 0
      have y1 : V.cell? ⟨qb, 1, none⟩ = some (.int .i64 q1) := hqV.cell 1
      have y2 : V.cell? ⟨qb, 2, none⟩ = some (.int .i64 q2) := hqV.cell 2
      have hlbV : lb < V.heap.size := by have := HG.out.2.2.2; have := hB.size; omega
      have hqlt := hqV.lt
      have hslV : Sl encT 9 V V.heap.size T L := (hsl.below hB).more hB.size
      have ks := moved_any T t L (q0, q1, q2) V hslV (by omega)
      rw [← hN] at ks
      have HK := hide (And.intro ks (And.intro hslV (And.intro hfit (And.intro hN (And.intro hlen hB)))))
      clear ks hslV hfit hN hlen hB hc hsl hqV
      go_upto_region 6 with (go_at_call 25; refine HK.out.1.mono ?_; rintro e Z ⟨v, rfl, ho, hB⟩; obtain ⟨SA, sc, rfl⟩ := ho.form; have h1 := ho.sl encT_len (Nat.le_refl _); have h2 := (HK.out.2.1.below hB).more hB.size; have H5 := hide (And.intro h1 (And.intro h2 hB)); clear ho hB h1 h2)
      have hslS : ∀ W, Below Z.heap.size Z W → Sl encT 9 W W.heap.size SA (L.map (movT (q0, q1, q2))) := fun W h => (H5.out.1.below h).more h.size
      have hslT : ∀ W, Below Z.heap.size Z W → Sl encT 9 W W.heap.size T L := fun W h => (H5.out.2.1.below h).more h.size
      have hN := HK.out.2.2.2.1
      have hln := HK.out.2.2.2.2.1
      have hfL := HK.out.2.2.1
      have hfM : ∀ t ∈ L.map (movT (q0, q1, q2)), fitsT t := fun t ht => by obtain ⟨u, _, rfl⟩ := List.mem_map.1 ht; exact movT_fits _ _
      have hlM : (L.map (movT (q0, q1, q2))).length = N := by rw [List.length_map, hN]
      have s1 := vol_small hfL (by omega)
      have s2 := vol_small hfM (by omega)
      have k1 : ∀ W, Below Z.heap.size Z W → Calls Tryz.prog 26 #[.slice T N t] W fun e w' => ∃ b s, e = .returned (.agg #[.bool b, .string s]) ∧ WideN (.agg #[.bool b, .string s]) (vol6 L) ∧ Below W.heap.size W w' := fun W h => by
        have := vol_p hfL (by omega) T t W (hslT W h)
        rw [← hN] at this; exact this
      have k2 : ∀ W, Below Z.heap.size Z W → Calls Tryz.prog 27 #[.slice T N t] W fun e w' => ∃ b s, e = .returned (.agg #[.bool b, .string s]) ∧ WideN (.agg #[.bool b, .string s]) (vol6 L) ∧ Below W.heap.size W w' := fun W h => by
        have := vol_r hfL (by omega) T t W (hslT W h)
        rw [← hN] at this; exact this
      have k3 : ∀ W, Below Z.heap.size Z W → Calls Tryz.prog 26 #[.slice SA N sc] W fun e w' => ∃ b s, e = .returned (.agg #[.bool b, .string s]) ∧ WideN (.agg #[.bool b, .string s]) (vol6 (L.map (movT (q0, q1, q2)))) ∧ Below W.heap.size W w' := fun W h => by
        have := vol_p hfM (by omega) SA sc W (hslS W h)
        rw [hlM] at this; exact this
      have k4 : ∀ W, Below Z.heap.size Z W → Calls Tryz.prog 27 #[.slice SA N sc] W fun e w' => ∃ b s, e = .returned (.agg #[.bool b, .string s]) ∧ WideN (.agg #[.bool b, .string s]) (vol6 (L.map (movT (q0, q1, q2)))) ∧ Below W.heap.size W w' := fun W h => by
        have := vol_r hfM (by omega) SA sc W (hslS W h)
        rw [hlM] at this; exact this
      have HZ := hide (HK.out.2.2.2.2.2.trans (H5.out.2.2.mono HK.out.2.2.2.2.2.size))
      obtain ⟨x1, hx1⟩ : ∃ x, x = vol6 L := ⟨_, rfl⟩
      obtain ⟨x2, hx2⟩ : ∃ x, x = vol6 (L.map (movT (q0, q1, q2))) := ⟨_, rfl⟩
      simp only [← hx1] at k1 k2 s1
      simp only [← hx2] at k3 k4 s2
      have K := hide (And.intro k1 (And.intro k2 (And.intro k3 (And.intro k4 (And.intro s1 s2)))))
      clear k1 k2 k3 k4 s1 s2 hslS hslT hN hln hfL hfM hlM H5 HK hx1 hx2
      go_upto_region 8 with (first
        | (go_at_call 27; refine (K.out.2.2.2.1 W3 J3.out.2).mono ?_; rintro e W4 ⟨b4, u4, rfl, hv, hB⟩; obtain ⟨rfl, rfl⟩ := wide_pair J3.out.1 hv; have e2 := eqWd b3 u3 (wideN_size5 J3.out.1 K.out.2.2.2.2.2); have J4 := hide (J3.out.2.trans (hB.mono J3.out.2.size)); clear hv hB)
        | (go_at_call 26; refine (K.out.2.2.1 W2 J2.out).mono ?_; rintro e W3 ⟨b3, u3, rfl, hv, hB⟩; have J3 := hide (And.intro hv (J2.out.trans (hB.mono J2.out.size))); clear hv hB)
        | (go_at_call 27; refine (K.out.2.1 W1 J1.out.2).mono ?_; rintro e W2 ⟨b2, u2, rfl, hv, hB⟩; obtain ⟨rfl, rfl⟩ := wide_pair J1.out.1 hv; have e1 := eqWd b1 u1 (wideN_size5 J1.out.1 K.out.2.2.2.2.1); have J2 := hide (J1.out.2.trans (hB.mono J1.out.2.size)); clear hv hB)
        | (go_at_call 26; refine (K.out.1 Z (Below.refl _ Z)).mono ?_; rintro e W1 ⟨b1, u1, rfl, hv, hB⟩; have J1 := hide (And.intro hv hB); clear hv hB))
      have HJ := hide (HZ.out.trans (J4.out.mono HZ.out.size))
      clear J1 J2 J3 J4 e1 e2
      go_wp2
      go_roundw
      case rel => exact ⟨i + 1, by omega, by go_num, HJ.out⟩
      case measure => (simp [intOf]; try omega)
    · obtain rfl : i = 2 := by omega
      have i1 : ¬ ((2 : Nat) : Int) < 2 := by omega
      have HB := hide (HG.out.2.2.1.trans (hB.mono HG.out.2.2.1.size))
      clear hB
      go_wp2
      go_ret
      exact ⟨rfl, HB.out⟩
end Go.Proofs.YtelfnmohpjkilaaGreatDoor
