/- ClusterSplits: the walk. -/
import Derived.Test.YtgndbpkgehjelaaCB14
import Derived.Test.YtgndbpkgehjelaaCB24
import Derived.Test.YtgndbpkgehjelaaCB25
import Derived.Test.YtgndbpkgehjelaaCB27
namespace Go.Proofs.Ytgndbpkgehjelaa
open Go.RowKit Go.Sort
theorem fits_soup (ns : List Tri) : ∀ t ∈ soupL ns, fitsT t := by
  intro t ht
  obtain ⟨s, rfl⟩ := soupL_bound ns t ht
  have h : ∀ x : Int, fits (soupC x) := fun x => by have := soupC_bound x; unfold fits; omega
  exact ⟨⟨h _, h _, h _⟩, ⟨h _, h _, h _⟩, h _, h _, h _⟩
set_option maxRecDepth 100000 in
set_option maxHeartbeats 8000000 in
theorem splits_walk (A : Option Addr) (c : Nat) (ns : List Tri) (n : Int) (w : World) (hs : ns ≠ [] → Sl encT 9 w w.heap.size A ns) (hl : ns.length ≤ 9223372036854775807) (hn : fits n) :
    Calls Try.prog 4 #[.slice A ns.length c, .int .i64 n] w fun e w' => e = .returned (.bool true) ∧ Below w.heap.size w w' := by
  have H := hide (And.intro hs hn)
  clear hs hn
  go_enter Try.func4, Try.ntmps4
  go_wp2_with fail
  refine (sanity_any _).mono ?_
  rintro e w1 ⟨rfl, hB1⟩
  have H1 := hide hB1
  clear hB1
  go_wp2_with fail
  refine (soup_any A c ns w1 (fun hne => ((H.out.1 hne).below H1.out).more H1.out.size) hl).mono ?_
  rintro e w2 ⟨u, rfl, hown, hB2⟩
  have hft := fits_soup ns
  have hTl := soupL_length ns
  obtain ⟨T, hT⟩ : ∃ T, T = soupL ns := ⟨_, rfl⟩
  rw [← hT] at hown hft hTl
  obtain ⟨A2, c2, rfl⟩ := hown.form
  have hsT : Sl encT 9 w2 w2.heap.size A2 T := hown.sl encT_len (Nat.le_refl _)
  have H2 := hide (And.intro hsT (And.intro hft (And.intro hB2 hown.place.1)))
  clear hsT hft hB2 hown hT
  go_wp2_with fail
  refine (split_any A2 c2 n T w2 H2.out.1 (by omega) (by have := H.out.2; unfold fits at this; omega)).mono ?_
  rintro e w3 ⟨v, rfl, hp, hB3⟩
  obtain ⟨Av, cv, rfl, hcv, hlst⟩ := hp.lst encT_len
  obtain ⟨m, hmm⟩ : ∃ m : Nat, max n 1 = (m : Int) ∧ 1 ≤ m ∧ n.toNat ≤ m := ⟨(max n 1).toNat, by omega, by omega, by omega⟩
  have hmax := hmm.1
  obtain ⟨L, hL⟩ : ∃ L, L = canonT T := ⟨_, rfl⟩
  have hLl : L.length ≤ 40 := by rw [hL, canonT_length]; exact hTl
  have hsp : splitT n T = (List.range (nChunks L.length m)).map (pieceT m L) := by
    unfold splitT
    rw [hmm.1, Int.toNat_natCast, ← hL]
  obtain ⟨N, hN⟩ : ∃ N, N = nChunks L.length m := ⟨_, rfl⟩
  have hNl : (splitT n T).length = N := by rw [hsp, hN]; simp
  have hN40 : N ≤ 40 := by rw [hN]; have := nChunks_le (len := L.length) (m := m) (by omega); omega
  rw [hNl] at hcv ⊢
  have H3 := hide (And.intro hlst (And.intro hB3 (And.intro hsp (And.intro hN (And.intro hL (And.intro hmm (And.intro hcv hNl)))))))
  clear hlst hB3 hsp hN hL hmm hp hcv hNl
  have hm1 : (1 : Nat) ≤ m := H3.out.2.2.2.2.2.1.2.1
  go_wp2
  go_loopw [8, 19] (fun av i wr => ∃ k : Nat, k ≤ N ∧ i = .int .i64 k ∧ Own encT 9 26 wr w3.heap.size av (L.take (k * m)).length (L.take (k * m)) ∧ Below w3.heap.size w3 wr) (fun _ i _ => N - (intOf i).toNat)
  case atStart => exact ⟨0, by omega, rfl, by simpa using Own.nil, Below.refl _ w3⟩
  case round =>
    obtain ⟨k, hk, rfl, hown, hB⟩ := hrel
    obtain ⟨D, hD⟩ : ∃ D, D = L.take (k * m) := ⟨_, rfl⟩
    rw [← hD] at hown
    obtain ⟨Aa, ca, rfl⟩ := hown.form
    have hszB := hB.size
    by_cases hlt : k < N
    · obtain ⟨P, hP⟩ : ∃ P, P = pieceT m L k := ⟨_, rfl⟩
      have hkN : k < nChunks L.length m := by rw [← H3.out.2.2.2.1]; exact hlt
      have hpos := piece_pos (L := L) hm1 hkN
      rw [← hP] at hpos
      have hPk : (splitT n T)[k]? = some P := by rw [H3.out.2.2.1, List.getElem?_map, List.getElem?_range hkN, hP]; rfl
      obtain ⟨b, o, A', c', hA, hb, hcell, hsP⟩ := (H3.out.1.below hB).at hPk
      subst hA
      have hfull : k + 1 < N → P.length = m := fun h => by rw [hP]; exact piece_full hm1 (by rw [← H3.out.2.2.2.1]; exact h)
      have htk : D ++ P = L.take ((k + 1) * m) := by rw [hP, hD]; exact take_piece m k L
      have hPl : P.length ≤ 40 := by rw [hP, pieceT_length]; omega
      have hal : D.length ≤ 40 := by rw [hD, List.length_take]; omega
      have i1 : (k : Int) < (N : Int) := by omega
      have d1 : ((P.length : Int) == 0) = false := by simp; exact List.length_pos_iff.1 hpos.1
      have d2 : decide (m < P.length) = false := decide_eq_false (by omega)
      have hPl2 : P.length ≤ 9223372036854775807 := by omega
      have HR := hide (And.intro hown (And.intro hB (And.intro hsP (And.intro htk (And.intro hPl (And.intro hal hpos.2))))))
      clear hown hB hsP htk hP hPk hkN hpos hPl hal hD
      by_cases hlast : k + 1 < N
      · have hPm := hfull hlast
        have i2 : decide ((k : Int) < (N : Int) - 1) = true := decide_eq_true (by omega)
        have d3 : ((P.length : Int) != (m : Int)) = false := by simp [hPm]
        have d4 : (P.length != m) = false := by simp [hPm]
        have HF := hide hPm
        clear hfull hPm
        go_wp2_with (at_builtin; refine wpList_appendS rfl _ _ _ rfl Try.underlying27 infoT rfl (by omega) encT_len encT_one rfl HR.out.1 A' c' w3.heap.size P rfl HR.out.2.2.1 (by have := HR.out.2.2.2.2.1; have := HR.out.2.2.2.2.2.1; unfold maxLen; omega) (by have := HR.out.2.2.2.2.1; have := HR.out.2.2.2.2.2.1; omega) hszB ?_; intro v4 w4 hown4 hg4 hB4 hat4)
        go_roundw
        case rel => exact ⟨k + 1, by omega, by go_num, by rw [← HR.out.2.2.2.1, List.length_append]; exact hown4, HR.out.2.1.trans hB4⟩
        case measure => simp [intOf]; omega
      · have i2 : ¬ ((k : Int) < (N : Int) - 1) := by omega
        clear hfull
        go_wp2_with (at_builtin; refine wpList_appendS rfl _ _ _ rfl Try.underlying27 infoT rfl (by omega) encT_len encT_one rfl HR.out.1 A' c' w3.heap.size P rfl HR.out.2.2.1 (by have := HR.out.2.2.2.2.1; have := HR.out.2.2.2.2.2.1; unfold maxLen; omega) (by have := HR.out.2.2.2.2.1; have := HR.out.2.2.2.2.2.1; omega) hszB ?_; intro v4 w4 hown4 hg4 hB4 hat4)
        go_roundw
        case rel => exact ⟨k + 1, by omega, by go_num, by rw [← HR.out.2.2.2.1, List.length_append]; exact hown4, HR.out.2.1.trans hB4⟩
        case measure => simp [intOf]; omega
    · have hkN : k = N := by omega
      subst hkN
      have hall : D = L := by rw [hD, H3.out.2.2.2.1]; exact take_all hm1
      rw [hall] at hown ⊢
      have hsL : Sl encT 9 wr wr.heap.size Aa L := hown.sl encT_len (Nat.le_refl _)
      have hsT : Sl encT 9 wr wr.heap.size A2 T := ((H2.out.1.below H3.out.2.1).below (hB.mono H3.out.2.1.size)).more (by have := H3.out.2.1.size; omega)
      have HR := hide (And.intro hsL (And.intro hsT hB))
      clear hown hB hsL hsT hlt hk hD hall
      go_wp2_with fail
      refine (split13_any A2 c2 n T wr HR.out.2.1 (by omega) (by have := H.out.2; unfold fits at this; omega) H2.out.2.1).mono ?_
      rintro e w4 ⟨v4, rfl, hp4, hB4⟩
      obtain ⟨A4, c4, rfl, hc4, hl4⟩ := hp4.lst encT_len
      rw [H3.out.2.2.2.2.2.2.2]
      have H4 := hide (And.intro hl4 hB4)
      clear hl4 hB4 hp4 hc4
      have hsame := same_any Av A4 cv c4 (splitT n T) (splitT n T) w4 w3.heap.size w4.heap.size ((H3.out.1.below HR.out.2.2).below (H4.out.2.mono hszB)) H4.out.1 (by rw [H3.out.2.2.2.2.2.2.2]; omega) (by rw [H3.out.2.2.2.2.2.2.2]; omega)
        (fun p hp => by have := (splitT_mem hp).2; omega) (fun p hp => by have := (splitT_mem hp).2; omega) (fun p hp => fits_split H2.out.2.1 hp) (fun p hp => fits_split H2.out.2.1 hp)
      rw [decide_eq_true rfl, H3.out.2.2.2.2.2.2.2] at hsame
      have HS := hide hsame
      clear hsame
      go_wp2_with fail
      with_reducible refine HS.out.mono ?_
      rintro e w5 ⟨rfl, nn, rfl⟩
      have hb5 : Below wr.heap.size wr (w4.drewN nn) := below_drewN H4.out.2 nn
      have hsT5 : Sl encT 9 (w4.drewN nn) (w4.drewN nn).heap.size A2 T := (HR.out.2.1.below hb5).more hb5.size
      have hsL5 : Sl encT 9 (w4.drewN nn) (w4.drewN nn).heap.size Aa L := (HR.out.1.below hb5).more hb5.size
      obtain ⟨W5, hW5⟩ : ∃ W5, W5 = w4.drewN nn := ⟨_, rfl⟩
      rw [← hW5] at hb5 hsT5 hsL5 ⊢
      have H5 := hide (And.intro hsT5 (And.intro hsL5 hb5))
      clear hsT5 hsL5 hb5 hW5
      go_wp2_with fail
      refine (canon04_any A2 c2 T W5 H5.out.1 (by omega) H2.out.2.1).mono ?_
      rintro e w6 ⟨A6, c6, rfl, hB6, hs6, hc6⟩
      have heq := equal_any Aa A6 ca c6 L (canonO T) w6 W5.heap.size w6.heap.size (H5.out.2.1.below hB6) hs6 (by omega) (by rw [canonO_length]; omega) (by rw [H3.out.2.2.2.2.1]; exact fitsT_canon H2.out.2.1) (fitsT_canon H2.out.2.1)
      rw [canonO_length, decide_eq_true (show L = canonO T from H3.out.2.2.2.2.1)] at heq
      have H6 := hide (And.intro heq hB6)
      clear heq hB6 hs6 hc6
      go_wp2_with fail
      with_reducible refine H6.out.1.mono ?_
      rintro e w7 ⟨rfl, n7, rfl⟩
      go_wp2
      go_ret
      have z1 := H1.out.size
      have z2 := H2.out.2.2.1.size
      have z3 := H3.out.2.1.size
      have z4 := HR.out.2.2.size
      have z5 := H5.out.2.2.size
      have e3 : Below w.heap.size w w3 := (H1.out.trans (H2.out.2.2.1.mono z1)).trans (H3.out.2.1.mono (by omega))
      have e5 : Below w.heap.size w W5 := (e3.trans (HR.out.2.2.mono (by omega))).trans (H5.out.2.2.mono (by omega))
      exact ⟨rfl, below_drewN (e5.trans (H6.out.2.mono (by omega))) n7⟩
end Go.Proofs.Ytgndbpkgehjelaa
