/- ClusterKeeps: the walk. -/
import Derived.IntWalk
import Derived.StillTailTactics
import Derived.Test.YtgndbpkgehjelaaCSplits
import Derived.Test.YtgndbpkgehjelaaCGroupsW
import Derived.Test.YtgndbpkgehjelaaCFinestW
import Derived.Test.YtgndbpkgehjelaaCWeak
namespace Go.Proofs.Ytgndbpkgehjelaa
open Go.RowKit Go.Sort
/-- What the first loops keep. -/
def KeepI (w0 : World) (g : Nat) (v1 v2 : Value) (n1 n2 : Nat) (w : World) : Prop :=
  w0.heap.size ≤ g ∧ Blk w g 28 #[v1, v2] ∧ PcsI 9 26 27 w w0.heap.size v1 n1 ∧ PcsI 9 26 27 w w0.heap.size v2 n2 ∧ Below w0.heap.size w0 w
section
variable {w0 w : World} {g n1 n2 : Nat} {v1 v2 : Value}
theorem KeepI.at (h : KeepI w0 g v1 v2 n1 n2 w) (h1 : n1 ≤ 4294967296) (h2 : n2 ≤ 4294967296) {i : Nat} (hi : i < 2) : ∃ A n c, w.cell? ⟨g, i, none⟩ = some (.slice A n c) ∧ n ≤ 4294967296 ∧ ((.slice A n c = v1 ∧ n = n1) ∨ (.slice A n c = v2 ∧ n = n2)) := by
  obtain ⟨_, hb, p1, p2, _⟩ := h
  obtain ⟨A1, c1, e1⟩ := p1.form
  obtain ⟨A2, c2, e2⟩ := p2.form
  have hc : i = 0 ∨ i = 1 := by omega
  rcases hc with rfl | rfl
  · exact ⟨A1, n1, c1, by rw [hb.cell, e1]; rfl, h1, .inl ⟨e1.symm, rfl⟩⟩
  · exact ⟨A2, n2, c2, by rw [hb.cell, e2]; rfl, h2, .inr ⟨e2.symm, rfl⟩⟩
theorem KeepI.pcs (h : KeepI w0 g v1 v2 n1 n2 w) {v : Value} {n : Nat} (hv : (v = v1 ∧ n = n1) ∨ (v = v2 ∧ n = n2)) : PcsI 9 26 27 w w0.heap.size v n := by
  rcases hv with ⟨rfl, rfl⟩ | ⟨rfl, rfl⟩
  · exact h.2.2.1
  · exact h.2.2.2.1
theorem KeepI.drew (h : KeepI w0 g v1 v2 n1 n2 w) : KeepI w0 g v1 v2 n1 n2 w.drew := ⟨h.1, h.2.1, h.2.2.1, h.2.2.2.1, h.2.2.2.2.drew⟩
theorem KeepI.set (h : KeepI w0 g v1 v2 n1 n2 w) {g' j : Nat} {cs : Array Value} (hb : w0.heap.size ≤ g') (hg : Blk w g' 26 cs) (x : Int) : KeepI w0 g v1 v2 n1 n2 (w.setCell ⟨g', j, none⟩ (.int .i64 x)) := by
  have hne : g ≠ g' := by
    rintro rfl
    have h1 := h.2.1
    unfold Blk at h1 hg
    rw [hg] at h1
    injection h1 with h1
    injection h1 with _ h1
    exact absurd h1 (by decide)
  exact ⟨h.1, h.2.1.far (p := ⟨g', j, none⟩) hne _, h.2.2.1.set (by decide) hg x, h.2.2.2.1.set (by decide) hg x, h.2.2.2.2.setCell hb _⟩
end
theorem encT_ints (t : Tri) : ∀ u ∈ encT t, ∃ z, u = Value.int .i64 z := by
  intro u hu
  simp only [encT, List.mem_cons, List.not_mem_nil, or_false] at hu
  rcases hu with rfl | rfl | rfl | rfl | rfl | rfl | rfl | rfl | rfl <;> exact ⟨_, rfl⟩
theorem encI_ints (x : Nat) : ∀ u ∈ encI x, ∃ z, u = Value.int .i64 z := by
  intro u hu
  simp only [encI, List.mem_singleton] at hu
  exact ⟨_, hu⟩
set_option maxRecDepth 100000 in
set_option maxHeartbeats 16000000 in
theorem keeps_walk (A : Option Addr) (c : Nat) (ns : List Tri) (B : Option Addr) (d : Nat) (cuts : List Nat) (w : World) (hs : ns ≠ [] → Sl encT 9 w w.heap.size A ns) (hl : ns.length ≤ 9223372036854775807)
    (hcs : cuts ≠ [] → Sl encB 1 w w.heap.size B cuts) (hcb : ∀ x ∈ cuts, x < 256) (hcl : cuts.length ≤ 9223372036854775807) :
    Calls Try.prog 11 #[.slice A ns.length c, .slice B cuts.length d] w fun e w' => e = .returned (.bool true) ∧ Below w.heap.size w w' := by
  have H := hide (And.intro hs (And.intro hcs hcb))
  clear hs hcs hcb
  go_enter Try.func11, Try.ntmps11
  go_wp2_with fail
  refine (sanity_any _).mono ?_
  rintro e w1 ⟨rfl, hB1⟩
  have H1 := hide hB1
  clear hB1
  go_wp2_with fail
  with_reducible refine (soup_any A c ns w1 (fun hne => ((H.out.1 hne).below H1.out).more H1.out.size) hl).mono ?_
  rintro e w2 ⟨u2, rfl, hown2, hB2⟩
  have H2 := hide (H1.out.trans (hB2.mono H1.out.size))
  have HO := hide hown2
  clear hB2 hown2
  go_wp2_with fail
  with_reducible refine (soup_any A c ns w2 (fun hne => ((H.out.1 hne).below H2.out).more H2.out.size) hl).mono ?_
  rintro e w3 ⟨u3, rfl, hown3, hB3⟩
  have hown2 := HO.out.below hB3 (Nat.le_refl _)
  have hft := fits_soup ns
  have hTl := soupL_length ns
  have hfX := fits_soupL (ns := ns) (cuts := cuts)
  have hXl := listsL_facts (soupL ns) cuts
  have hF := finestT_facts (b := 3) (most := 4) hTl hft
  have hsl := splitT_length 4 (soupL ns)
  have hsm := fun p (hp : p ∈ splitT 4 (soupL ns)) => splitT_mem hp
  obtain ⟨T, hT⟩ : ∃ T, T = soupL ns := ⟨_, rfl⟩
  rw [← hT] at hown2 hown3 hft hTl hfX hXl hF hsl hsm
  obtain ⟨A2, c2, rfl⟩ := hown2.form
  obtain ⟨A3, c3, rfl⟩ := hown3.form
  have hcp2 := hown2.place.1
  have hcp3 := hown3.place.1
  have H3 := hide (And.intro (hown2.sl encT_len (Nat.le_refl _)) (And.intro (hown3.sl encT_len (Nat.le_refl _)) (And.intro hft (And.intro (H2.out.trans (hB3.mono H2.out.size)) (And.intro hfX (And.intro hXl (And.intro hF hsm)))))))
  clear hft hB3 hown2 hown3 hT hfX hXl hsm hF HO
  go_wp2_with fail
  with_reducible refine (finest_any A2 c2 3 4 T w3 H3.out.1 (by omega) H3.out.2.2.1 (by omega)).mono ?_
  rintro e w4 ⟨v4, rfl, hp4, hB4⟩
  have hi4 := hp4.ints encT_len encT_ints (fun p hp => by have := H3.out.2.2.2.2.2.2.1.2.1 p hp; omega)
  have hn4 := H3.out.2.2.2.2.2.2.1.1
  obtain ⟨n4, hn4e⟩ : ∃ n4, n4 = (finestT 3 4 T).length := ⟨_, rfl⟩
  rw [← hn4e] at hi4 hn4
  obtain ⟨A4, c4, rfl⟩ := hi4.form
  have H4 := hide (And.intro hi4 hB4)
  clear hi4 hB4 hp4 hn4e
  go_wp2_with fail
  with_reducible refine (split_any A2 c2 4 T w4 ((H3.out.1.below H4.out.2).more H4.out.2.size) (by omega) (by omega)).mono ?_
  rintro e w5 ⟨v5, rfl, hp5, hB5⟩
  have hi5 := hp5.ints encT_len encT_ints (fun p hp => by have := (H3.out.2.2.2.2.2.2.2 p hp).2; omega)
  obtain ⟨n5, hn5e⟩ : ∃ n5, n5 = (splitT 4 T).length := ⟨_, rfl⟩
  rw [← hn5e] at hi5 hsl
  obtain ⟨A5, c5, rfl⟩ := hi5.form
  have hK : KeepI w3 w5.heap.size (.slice A4 n4 c4) (.slice A5 n5 c5) n4 n5 (w5.alloc (.cells #[.slice A4 n4 c4, .slice A5 n5 c5] 28)) := by
    have z4 := H4.out.2.size
    have z5 := hB5.size
    have hBa : Below w5.heap.size w5 (w5.alloc (.cells #[.slice A4 n4 c4, .slice A5 n5 c5] 28)) := (Below.refl _ w5).alloc (Nat.le_refl _) _
    exact ⟨by omega, Blk.new _ _ _, (H4.out.1.below hB5 (Nat.le_refl _)).below hBa (Nat.le_refl _), (hi5.base_le z4).below hBa (Nat.le_refl _), (H4.out.2.trans (hB5.mono z4)).trans (hBa.mono (by omega))⟩
  obtain ⟨V, hV⟩ : ∃ V, V = w5.alloc (.cells #[.slice A4 n4 c4, .slice A5 n5 c5] 28) := ⟨_, rfl⟩
  rw [← hV] at hK
  have HK := hide hK
  have HV := hide hV
  clear hi5 hB5 hp5 hn5e hK hV H4
  go_wp2
  rw [← HV.out]
  go_loopw [28] (fun i wr => ∃ k : Nat, k ≤ 2 ∧ i = .int .i64 k ∧ KeepI w3 w5.heap.size (.slice A4 n4 c4) (.slice A5 n5 c5) n4 n5 wr) (fun i _ => 2 - (intOf i).toNat)
  case atStart => exact ⟨0, by omega, rfl, HK.out⟩
  case round =>
    obtain ⟨k, hk, rfl, hKr⟩ := hrel
    by_cases hlt : k < 2
    · obtain ⟨Av, nv, cv, hcell, hnv, hv⟩ := hKr.at (by omega) (by omega) hlt
      have i1 : (k : Int) < 2 := by omega
      have HR := hide (And.intro hKr hv)
      clear hKr hv
      go_wp2
      clear hcell
      go_loopw [34] (fun i wr => ∃ j : Nat, j ≤ nv ∧ i = .int .i64 j ∧ KeepI w3 w5.heap.size (.slice A4 n4 c4) (.slice A5 n5 c5) n4 n5 wr) (fun i _ => nv - (intOf i).toNat)
      case atStart => exact ⟨0, by omega, rfl, HR.out.1⟩
      case round =>
        obtain ⟨j, hj, rfl, hKr⟩ := hrel
        by_cases hlj : j < nv
        · obtain ⟨b, o, Ap, np, cp, hA, hb, hcell, hnp, hints⟩ := (hKr.pcs HR.out.2).at hlj
          subst hA
          have i2 : (j : Int) < (nv : Int) := by omega
          have HS := hide (And.intro hKr hints)
          clear hKr hints
          go_wp2
          clear hcell
          go_loopw [40] (fun i wr => ∃ m : Nat, m ≤ np ∧ i = .int .i64 m ∧ KeepI w3 w5.heap.size (.slice A4 n4 c4) (.slice A5 n5 c5) n4 n5 wr ∧ IntsAt 9 26 wr w3.heap.size Ap np) (fun i _ => np - (intOf i).toNat)
          case atStart => exact ⟨0, by omega, rfl, HS.out.1, HS.out.2⟩
          case round =>
            obtain ⟨m, hm, rfl, hKr, hints⟩ := hrel
            by_cases hlm : m < np
            · obtain ⟨g, x, cs, hA, hgb, hbk, hcx, hfx⟩ := hints.at (j := m * 9) (by omega)
              subst hA
              have i3 : (m : Int) < (np : Int) := by omega
              have i4 : (0 : Int) ≤ (m : Int) := by omega
              have HT := hide (And.intro hKr (And.intro hints (And.intro hgb hbk)))
              clear hKr hints hgb hbk
              go_wp2_with fail
              go_still_tail 8, (by kernel_rfl)
              go_wp2
              go_roundw
              case rel => exact ⟨m + 1, by omega, by go_num, (HT.out.1.drew.set HT.out.2.2.1 HT.out.2.2.2.drew _), (show IntsAt 9 26 wr.drew w3.heap.size _ np from HT.out.2.1).set g (m * 9) _⟩
              case measure => simp [intOf]; omega
            · have HT := hide hKr
              clear hKr hints
              go_wp2
              go_roundw
              case rel => exact ⟨j + 1, by omega, by go_num, HT.out⟩
              case measure => simp [intOf]; omega
        · have HT := hide hKr
          clear hKr
          go_wp2
          go_roundw
          case rel => exact ⟨k + 1, by omega, by go_num, HT.out⟩
          case measure => simp [intOf]; omega
    · have hB3 := hKr.2.2.2.2
      have hz3 := hB3.size
      have hBw := H3.out.2.2.2.1.trans (hB3.mono H3.out.2.2.2.1.size)
      have hlists := lists_any A2 B c2 d T cuts wr ((H3.out.1.below hB3).more hz3) hcp2 (by omega) (fun hne => ((H.out.2.1 hne).below hBw).more hBw.size) H.out.2.2 hcl
      obtain ⟨X, hX⟩ : ∃ X, X = listsL T cuts := ⟨_, rfl⟩
      have hXl := H3.out.2.2.2.2.2.1
      have hfX := H3.out.2.2.2.2.1
      rw [← hX] at hlists hXl hfX
      obtain ⟨N, hN⟩ : ∃ N, N = X.length := ⟨_, rfl⟩
      rw [← hN] at hlists hXl
      have HL := hide (And.intro hlists (And.intro hB3 (And.intro hBw (And.intro hfX (And.intro hXl (And.intro hX hN))))))
      clear hlists hB3 hBw hfX hXl hX hN hKr
      go_wp2_with fail
      with_reducible refine HL.out.1.mono ?_
      rintro e w6 ⟨Ax, cx, rfl, hcx, hlst, hB6⟩
      have hcal := groups_any Ax cx X 4 true w6 hlst (by rw [← HL.out.2.2.2.2.2.2]; exact hcx) (by have := HL.out.2.2.2.2.1.1; rw [← HL.out.2.2.2.2.2.2]; omega) (fun p hp => by have := (HL.out.2.2.2.1 p hp).1; omega) (fun p hp => (HL.out.2.2.2.1 p hp).2)
      rw [← HL.out.2.2.2.2.2.2] at hcal
      have H6 := hide (And.intro hcal hB6)
      clear hcal hB6 hlst hcx
      go_wp2_with fail
      with_reducible refine H6.out.1.mono ?_
      rintro e w7 ⟨v7, rfl, hp7, hB7⟩
      have hG := groupsL_length X 4 true
      have hi7 := hp7.ints encI_len encI_ints (fun p hp => by have := (groupsL_mem hp).2.1; have := HL.out.2.2.2.2.1.1; have := HL.out.2.2.2.2.2.2; omega)
      obtain ⟨G, hGe⟩ : ∃ G, G = (groupsL X 4 true).length := ⟨_, rfl⟩
      rw [← hGe] at hi7 hG
      obtain ⟨A7, c7, rfl⟩ := hi7.form
      have hG21 : G ≤ 21 := by have := HL.out.2.2.2.2.1.1; have := HL.out.2.2.2.2.2.2; omega
      have H7 := hide (And.intro hi7 (And.intro hB7 hGe))
      clear hi7 hB7 hp7 hGe hG
      go_wp2
      go_loopw [62] (fun i wr => ∃ k : Nat, k ≤ G ∧ i = .int .i64 k ∧ PcsI 1 3 31 wr w6.heap.size (.slice A7 G c7) G ∧ Below w6.heap.size w6 wr) (fun i _ => G - (intOf i).toNat)
      case atStart => exact ⟨0, by omega, rfl, H7.out.1, H7.out.2.1⟩
      case round =>
        obtain ⟨k, hk, rfl, hPr, hBr⟩ := hrel
        by_cases hlk : k < G
        · obtain ⟨b, o, Ap, np, cp, hA, hb, hcell, hnp, hints⟩ := hPr.at hlk
          subst hA
          have i2 : (k : Int) < (G : Int) := by omega
          have HS := hide (And.intro hPr (And.intro hints hBr))
          clear hPr hints hBr
          go_wp2
          clear hcell
          go_loopw [68] (fun i wr => ∃ m : Nat, m ≤ np ∧ i = .int .i64 m ∧ PcsI 1 3 31 wr w6.heap.size (.slice (some ⟨b, o, none⟩) G c7) G ∧ IntsAt 1 3 wr w6.heap.size Ap np ∧ Below w6.heap.size w6 wr) (fun i _ => np - (intOf i).toNat)
          case atStart => exact ⟨0, by omega, rfl, HS.out.1, HS.out.2.1, HS.out.2.2⟩
          case round =>
            obtain ⟨m, hm, rfl, hPr, hints, hBr⟩ := hrel
            by_cases hlm : m < np
            · obtain ⟨g, x, cs, hA, hgb, hbk, hcx, hfx⟩ := hints.at (j := m) (by omega)
              subst hA
              have i3 : (m : Int) < (np : Int) := by omega
              have i4 : (0 : Int) ≤ (m : Int) := by omega
              have HT := hide (And.intro hPr (And.intro hints (And.intro hgb (And.intro hbk hBr))))
              clear hPr hints hgb hbk hBr
              go_wp2
              go_roundw
              case rel => exact ⟨m + 1, by omega, by go_num, HT.out.1.set (by decide) HT.out.2.2.2.1 _, HT.out.2.1.set g m _, HT.out.2.2.2.2.setCell HT.out.2.2.1 _⟩
              case measure => simp [intOf]; omega
            · have HT := hide (And.intro hPr hBr)
              clear hPr hints hBr
              go_wp2
              go_roundw
              case rel => exact ⟨k + 1, by omega, by go_num, HT.out.1, HT.out.2⟩
              case measure => simp [intOf]; omega
        · have hB36 : Below w3.heap.size w3 wr := (HL.out.2.1.trans (H6.out.2.mono HL.out.2.1.size)).trans (hBr.mono (by have := HL.out.2.1.size; have := H6.out.2.size; omega))
          have hsT2 : Sl encT 9 wr w3.heap.size A2 T := H3.out.1.below hB36
          have hsT3 : Sl encT 9 wr w3.heap.size A3 T := H3.out.2.1.below hB36
          have heq := equal_any A2 A3 c2 c3 T T wr w3.heap.size w3.heap.size hsT2 hsT3 (by omega) (by omega) H3.out.2.2.1 H3.out.2.2.1
          rw [decide_eq_true rfl] at heq
          have HE := hide (And.intro heq (And.intro hsT2 (And.intro hsT3 hB36)))
          clear heq hsT2 hsT3 hB36 hPr hBr
          go_wp2_with fail
          with_reducible refine HE.out.1.mono ?_
          rintro e w8 ⟨rfl, n8, rfl⟩
          obtain ⟨w8, hw8⟩ : ∃ w8, w8 = wr.drewN n8 := ⟨_, rfl⟩
          have hB8 : Below w3.heap.size w3 w8 := by rw [hw8]; exact below_drewN HE.out.2.2.2 n8
          rw [← hw8]
          have hsT2 : Sl encT 9 w8 w8.heap.size A2 T := (H3.out.1.below hB8).more hB8.size
          have hcal1 := finest_any A2 c2 3 4 T w8 hsT2 (by omega) H3.out.2.2.1 (by omega)
          have H8 := hide (And.intro hcal1 hB8)
          clear hcal1 hB8 hsT2 hw8 HE
          go_wp2_with fail
          with_reducible refine H8.out.1.mono ?_
          rintro e w9 ⟨v9, rfl, hp9, hB9⟩
          obtain ⟨A9, c9, rfl, hc9, hl9⟩ := hp9.lst encT_len
          have hB39 : Below w3.heap.size w3 w9 := H8.out.2.trans (hB9.mono H8.out.2.size)
          have hcal2 := finest_any A3 c3 3 4 T w9 ((H3.out.2.1.below hB39).more hB39.size) (by omega) H3.out.2.2.1 (by omega)
          have H9 := hide (And.intro hcal2 (And.intro hB39 hl9))
          clear hcal2 hB39 hl9 hp9 hc9 hB9 H8
          go_wp2_with fail
          with_reducible refine H9.out.1.mono ?_
          rintro e w10 ⟨v10, rfl, hp10, hB10⟩
          obtain ⟨A10, c10, rfl, hc10, hl10⟩ := hp10.lst encT_len
          have hF := H3.out.2.2.2.2.2.2.1
          have hsame := same_any A9 A10 c9 c10 (finestT 3 4 T) (finestT 3 4 T) w10 w9.heap.size w10.heap.size (H9.out.2.2.below hB10) hl10 (by omega) (by omega)
            (fun p hp => by have := hF.2.1 p hp; omega) (fun p hp => by have := hF.2.1 p hp; omega) hF.2.2 hF.2.2
          rw [decide_eq_true rfl] at hsame
          have H10 := hide (And.intro hsame (H9.out.2.1.trans (hB10.mono H9.out.2.1.size)))
          clear hsame hp10 hc10 hl10 hB10 hF H9
          go_wp2_with fail
          with_reducible refine H10.out.1.mono ?_
          rintro e w11 ⟨rfl, n11, rfl⟩
          obtain ⟨w11, hw11⟩ : ∃ w11, w11 = w10.drewN n11 := ⟨_, rfl⟩
          have hB11 : Below w3.heap.size w3 w11 := by rw [hw11]; exact below_drewN H10.out.2 n11
          rw [← hw11]
          have hBw := H3.out.2.2.2.1.trans (hB11.mono H3.out.2.2.2.1.size)
          have hlists := lists_any A3 B c3 d T cuts w11 ((H3.out.2.1.below hB11).more hB11.size) hcp3 (by omega) (fun hne => ((H.out.2.1 hne).below hBw).more hBw.size) H.out.2.2 hcl
          rw [← HL.out.2.2.2.2.2.1, ← HL.out.2.2.2.2.2.2] at hlists
          have H11 := hide (And.intro hlists hBw)
          clear hlists hBw hB11 hw11 H10
          go_wp2_with fail
          with_reducible refine H11.out.1.mono ?_
          rintro e w12 ⟨Ay, cy, rfl, hcy, hlst, hB12⟩
          have hcal := groups_any Ay cy X 4 true w12 hlst (by rw [← HL.out.2.2.2.2.2.2]; exact hcy) (by have := HL.out.2.2.2.2.1.1; rw [← HL.out.2.2.2.2.2.2]; omega) (fun p hp => by have := (HL.out.2.2.2.1 p hp).1; omega) (fun p hp => (HL.out.2.2.2.1 p hp).2)
          rw [← HL.out.2.2.2.2.2.2] at hcal
          have H12 := hide (And.intro hcal (H11.out.2.trans (hB12.mono H11.out.2.size)))
          clear hcal hB12 hlst hcy
          go_wp2_with fail
          with_reducible refine H12.out.1.mono ?_
          rintro e w13 ⟨v13, rfl, hp13, hB13⟩
          obtain ⟨A13, c13, rfl⟩ := hp13.form
          rw [← H7.out.2.2]
          have HB13 := hide (H12.out.2.trans (hB13.mono H12.out.2.size))
          clear hp13 hB13
          go_wp2
          go_ret
          exact ⟨rfl, HB13.out⟩
end Go.Proofs.Ytgndbpkgehjelaa
