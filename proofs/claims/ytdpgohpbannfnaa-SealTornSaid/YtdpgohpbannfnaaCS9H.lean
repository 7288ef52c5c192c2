/- SealKeeps: the walk. -/
import Derived.Test.YtdpgohpbannfnaaCS9G
import Derived.Test.YtdpgohpbannfnaaCS9E
namespace Go.Proofs.Ytdpgohpbannfnaa
open Go.RowKit Go.Sort Go.WideMaps Go.Maps
theorem edgL_few {F : List Bool} {s m : Nat} (hm : m = s * s * s) : (edgL F s).length ≤ 4 * m := by
  rw [← edgP_end]
  exact edgP_few (by omega) hm (Nat.zero_le _)
set_option maxRecDepth 100000 in
set_option maxHeartbeats 32000000 in
theorem keeps7_walk (A0 : Option Addr) (c0 : Nat) (ns0 : List Int) (x1 : Int) (w : World) (hs0 : ns0 ≠ [] → Sl encZ 1 w w.heap.size A0 ns0) (_hf0 : ∀ x ∈ ns0, fits x) (hl0 : ns0.length ≤ 9223372036854775807) (_hx1 : fits x1) :
    Calls Try.prog 5 #[.slice A0 ns0.length c0, .int .i64 x1] w fun e w' => e = .returned (.bool true) ∧ Below w.heap.size w w' := by
  have hmade := fun (W : World) (hW : Below w.heap.size w W) => made7_any x1 A0 c0 ns0 W (fun hne => ((hs0 hne).below hW).more hW.size) hl0
  obtain ⟨N0, hN0⟩ : ∃ N, N = ns0.length := ⟨_, rfl⟩
  rw [← hN0] at hmade ⊢
  obtain ⟨hL1, hL3⟩ := levP_bound x1
  obtain ⟨L, hL⟩ : ∃ L, L = levP x1 := ⟨_, rfl⟩
  rw [← hL] at hmade hL1 hL3
  have HL := hide (And.intro hL1 hL3)
  have H0 := hide hmade
  clear hmade hs0 hl0 hN0 hL hL1 hL3
  go_enter Try.func5, Try.ntmps5
  go_wp2_with fail
  refine (sanity7_any w).mono ?_
  rintro e w1 ⟨rfl, hB1⟩
  have H1 := hide hB1
  clear hB1
  go_wp2_with fail
  refine (H0.out w1 H1.out).mono ?_
  rintro e w2 ⟨g, F, rfl, hr, hg, hout, hB2⟩
  obtain ⟨m, hm⟩ : ∃ m, m = F.length := ⟨_, rfl⟩
  rw [← hm]
  have H2 := hide (And.intro hr (And.intro hm (And.intro hout (H1.out.trans (hB2.mono H1.out.size)))))
  clear hr hg hout hB2 hm
  go_upto_region 3 with fail
  obtain ⟨X1, hX1⟩ : ∃ X, X = w2.alloc (.cells #[.int .i64 (L : Int), .slice (some ⟨g, 0, none⟩) m m] 32) := ⟨_, rfl⟩
  rw [← hX1]
  obtain ⟨hb, hB⟩ := box7 hX1
  have K1 := hide (And.intro hb (And.intro (H2.out.1.on hB) (H2.out.2.2.2.trans (hB.mono H2.out.2.2.2.size))))
  obtain ⟨d0, d1⟩ := hb.two7
  clear hb hB hX1
  obtain ⟨n1, hn1⟩ : ∃ n, n = w2.heap.size := ⟨_, rfl⟩
  rw [← hn1] at K1 d0 d1 ⊢
  clear hn1
  go_wp2_with fail
  refine (edges7_any L g HL.out.1 HL.out.2 F m H2.out.2.1 H2.out.2.2.1.1 X1 K1.out.2.1).mono ?_
  rintro e w3 ⟨A3, c3, rfl, ho3, hB3⟩
  obtain ⟨el, hel⟩ : ∃ el, el = edgL F (2 ^ L + 1) := ⟨_, rfl⟩
  obtain ⟨N3, hN3⟩ : ∃ N, N = el.length := ⟨_, rfl⟩
  rw [← hel, ← hN3] at ho3
  rw [← hel, ← hN3]
  have hm729 : m ≤ 729 ∧ 2 ^ L ≤ 8 ∧ m = (2 ^ L + 1) * (2 ^ L + 1) * (2 ^ L + 1) := by
    have h1 := H2.out.2.2.1.1
    rw [← H2.out.2.1] at h1
    have h2 := HL.out
    have hc : L = 1 ∨ L = 2 ∨ L = 3 := by omega
    rcases hc with rfl | rfl | rfl <;> (refine ⟨?_, by decide, h1⟩; rw [h1]; decide)
  have hfl : ∀ e ∈ el, fitsF e := by rw [hel]; exact edgP_fits (by omega)
  have hN30 : N3 ≤ 4 * m := by rw [hN3, hel]; exact edgL_few hm729.2.2
  have hodd : oddP (2 ^ L) el = [] := by rw [hel]; exact keeps_odd H2.out.2.2.1
  have hpch : pchsP (2 ^ L) el = [] := by unfold pchsP; rw [hodd]; rfl
  have hfld : fldP (2 ^ L) el = F := by rw [hel]; exact keeps_fld H2.out.2.2.1
  have HE := hide (And.intro hN3 (And.intro hfl (And.intro hN30 (And.intro hm729 (And.intro hodd (And.intro hpch hfld))))))
  have K3 := hide (And.intro (ho3.sl encF_len (Nat.le_refl _)) (And.intro (K1.out.1.on hB3) (And.intro (K1.out.2.1.on hB3) (K1.out.2.2.trans (hB3.mono K1.out.2.2.size)))))
  clear hN3 hel hfl hN30 hm729 hodd hpch hfld ho3 hB3 d0 d1
  obtain ⟨d0, d1⟩ := K3.out.2.1.two7
  go_wp2_with fail
  refine (Seal7_as (L := L) (n := 2 ^ L) (m := m) (k := N3) (q := 0) (l := el) (F := F) (ps := []) (Lz := (L : Int)) HL.out.1 (by have := HL.out; omega) rfl rfl HE.out.2.2.2.1.2.2 HE.out.1 HE.out.2.2.2.2.2.2 HE.out.2.2.2.2.2.1 rfl (by have h1 := HE.out.2.2.1; have h2 := HE.out.2.2.2.1.1; omega) HE.out.2.1 A3 c3 w3 K3.out.1).mono ?_
  rintro e w4 ⟨gi, A4, c4, rfl, hr4, _, _, hB4⟩
  have H4 := hide (And.intro hr4 hB4)
  clear hr4 hB4
  go_upto_region 5 with fail
  obtain ⟨X2, hX2⟩ : ∃ X, X = w4.alloc (.cells #[.int .i64 (L : Int), .slice (some ⟨gi, 0, none⟩) m m] 32) := ⟨_, rfl⟩
  rw [← hX2]
  obtain ⟨hb, hB⟩ := box7 hX2
  have hB4 := H4.out.2.trans (hB.mono H4.out.2.size)
  have K4 := hide (And.intro hb (And.intro (H4.out.1.on hB) (And.intro (K3.out.1.on hB4) (And.intro (K3.out.2.1.on hB4) (And.intro (K3.out.2.2.1.on hB4) (K3.out.2.2.2.trans (hB4.mono K3.out.2.2.2.size)))))))
  clear hb hB hX2 hB4 d0 d1
  obtain ⟨n2, hn2⟩ : ∃ n, n = w4.heap.size := ⟨_, rfl⟩
  rw [← hn2] at K4 ⊢
  clear hn2
  obtain ⟨d0, d1⟩ := K4.out.2.2.2.1.two7
  go_wp2_with fail
  refine (Odd7_as (k := N3) (m := 0) (Lz := (L : Int)) (l := el) (fs := []) HE.out.1 (by unfold oddV; rw [if_pos (by have := HL.out; omega), Int.toNat_natCast]; exact HE.out.2.2.2.2.1) rfl (by have h1 := HE.out.2.2.1; have h2 := HE.out.2.2.2.1.1; omega) HE.out.2.1 A3 c3 X2 K4.out.2.2.1).mono ?_
  rintro e w5 ⟨A5, c5, rfl, _, hB5⟩
  clear d0 d1
  obtain ⟨d0, d1⟩ := (K4.out.2.2.2.1.on hB5).two7
  obtain ⟨e0, e1⟩ := (K4.out.1.on hB5).two7
  have hsf := sameField_as m (L : Int) g gi m m F w5 (K4.out.2.2.2.2.1.on hB5) (K4.out.2.1.on hB5) H2.out.2.1 (by have h1 := HE.out.2.2.2.1.1; have h2 := H2.out.2.1; omega)
  have HS := hide (And.intro hsf (K4.out.2.2.2.2.2.trans (hB5.mono K4.out.2.2.2.2.2.size)))
  clear hsf hB5
  go_wp2_with fail
  refine HS.out.1.mono ?_
  rintro e w6 ⟨rfl, hB6⟩
  have HZ := hide (HS.out.2.trans (hB6.mono HS.out.2.size))
  clear hB6
  go_wp2_with fail
  go_ret
  exact ⟨rfl, HZ.out⟩
end Go.Proofs.Ytdpgohpbannfnaa
