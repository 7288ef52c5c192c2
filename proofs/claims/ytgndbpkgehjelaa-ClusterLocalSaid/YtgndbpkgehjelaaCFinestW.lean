/- ClusterFinest: the walk. -/
import Derived.Test.YtgndbpkgehjelaaCB28
import Derived.Test.YtgndbpkgehjelaaCSplits
namespace Go.Proofs.Ytgndbpkgehjelaa
open Go.RowKit Go.Sort
theorem finestT_facts {b most : Int} {ts : List Tri} (hl : ts.length ≤ 40) (hf : ∀ t ∈ ts, fitsT t) : (finestT b most ts).length ≤ 1600 ∧ (∀ p ∈ finestT b most ts, p.length ≤ 40) ∧ ∀ p ∈ finestT b most ts, ∀ t ∈ p, fitsT t := by
  rw [← finest_groups]
  have hg : ∀ g ∈ groupsO ltP (keyF b) ts, (∀ t ∈ g, fitsT t) ∧ g.length ≤ 40 := fun g hg => by
    have := groupsO_mem hg
    exact ⟨fun t ht => hf t (this.1 t ht), by omega⟩
  refine ⟨?_, fun p hp => ?_, fun p hp => ?_⟩
  · have h1 := sum_le_mem (fun q => splitT most q) 40 (groupsO ltP (keyF b) ts) (fun q hq => by
      have := splitT_length most q
      have := (hg q hq).2
      omega)
    have h2 : (groupsO ltP (keyF b) ts).length ≤ 40 := by
      rw [groupsO_length]
      have := keysO_length (lt := ltP) (key := keyF b) (xs := ts)
      omega
    refine Nat.le_trans h1 ?_
    have : (groupsO ltP (keyF b) ts).length * 40 ≤ 40 * 40 := Nat.mul_le_mul_right _ h2
    omega
  · obtain ⟨g, hgm, hp⟩ := List.mem_flatMap.1 hp
    have := (splitT_mem hp).2
    have := (hg g hgm).2
    omega
  · obtain ⟨g, hgm, hp⟩ := List.mem_flatMap.1 hp
    exact fits_split (hg g hgm).1 hp
set_option maxRecDepth 100000 in
set_option maxHeartbeats 8000000 in
theorem finest_walk (A : Option Addr) (c : Nat) (ns : List Tri) (n m : Int) (w : World) (hs : ns ≠ [] → Sl encT 9 w w.heap.size A ns) (hl : ns.length ≤ 9223372036854775807) (hn : fits n) (hm : fits m) :
    Calls Try.prog 5 #[.slice A ns.length c, .int .i64 n, .int .i64 m] w fun e w' => e = .returned (.bool true) ∧ Below w.heap.size w w' := by
  have H := hide (And.intro hs (And.intro hn hm))
  clear hs hn hm
  go_enter Try.func5, Try.ntmps5
  go_wp2_with fail
  refine (sanity_any _).mono ?_
  rintro e w1 ⟨rfl, hB1⟩
  have H1 := hide hB1
  clear hB1
  go_wp2_with fail
  refine (soup_any A c ns w1 (fun hne => ((H.out.1 hne).below H1.out).more H1.out.size) hl).mono ?_
  rintro e w2 ⟨u, rfl, hown, hB2⟩
  have hft := fits_soup ns
  have hTl := soupL_length ns
  obtain ⟨T, hT⟩ : ∃ T, T = soupL ns := ⟨_, rfl⟩
  rw [← hT] at hown hft hTl
  obtain ⟨A2, c2, rfl⟩ := hown.form
  have hsT : Sl encT 9 w2 w2.heap.size A2 T := hown.sl encT_len (Nat.le_refl _)
  have H2 := hide (And.intro hsT (And.intro hft (H1.out.trans (hB2.mono H1.out.size))))
  clear hsT hft hB2 hown hT
  go_wp2_with fail
  refine (mod_any n 9 (by omega) (by omega) _).mono ?_
  rintro e w3 ⟨rfl, rfl⟩
  obtain ⟨s, hsm⟩ : ∃ s, s = modC n 9 := ⟨_, rfl⟩
  rw [← hsm]
  clear hsm
  go_wp2_with fail
  refine (finest_any A2 c2 n m T w3 H2.out.1 (by omega) H2.out.2.1 (by have := H.out.2.2; unfold fits at this; omega)).mono ?_
  rintro e w4 ⟨v4, rfl, hp4, hB4⟩
  obtain ⟨A4, c4, rfl, hc4, hl4⟩ := hp4.lst encT_len
  have H4 := hide (And.intro hl4 (And.intro ((H2.out.1.below hB4).more hB4.size) hB4))
  clear hl4 hp4 hB4 hc4
  go_wp2_with fail
  refine (finest13_any A2 c2 n m T w4 H4.out.2.1 (by omega) H2.out.2.1 (by have := H.out.2.2; unfold fits at this; omega)).mono ?_
  rintro e w5 ⟨v5, rfl, hp5, hB5⟩
  obtain ⟨A5, c5, rfl, hc5, hl5⟩ := hp5.lst encT_len
  have hF1 := finestT_facts (b := n) (most := m) hTl H2.out.2.1
  have hsame1 := same_any A4 A5 c4 c5 (finestT n m T) (finestT n m T) w5 w4.heap.size w5.heap.size (H4.out.1.below hB5) hl5 (by omega) (by omega)
    (fun p hp => by have := hF1.2.1 p hp; omega) (fun p hp => by have := hF1.2.1 p hp; omega) hF1.2.2 hF1.2.2
  rw [decide_eq_true rfl] at hsame1
  have H5 := hide (And.intro hsame1 (And.intro ((H4.out.2.1.below hB5).more hB5.size) (H4.out.2.2.trans (hB5.mono H4.out.2.2.size))))
  clear hsame1 hp5 hB5 hl5 hc5 hF1
  go_wp2_with fail
  refine H5.out.1.mono ?_
  rintro e w6 ⟨rfl, nn, rfl⟩
  have hs6 : Sl encT 9 (w5.drewN nn) (w5.drewN nn).heap.size A2 T := H5.out.2.1.drewN nn
  have hB6 : Below w3.heap.size w3 (w5.drewN nn) := below_drewN H5.out.2.2 nn
  obtain ⟨W6, hW6⟩ : ∃ W6, W6 = w5.drewN nn := ⟨_, rfl⟩
  rw [← hW6] at hs6 hB6 ⊢
  have H6 := hide (And.intro hs6 hB6)
  clear hs6 hB6 hW6
  go_wp2_with fail
  refine (finest_any A2 c2 s 3 T W6 H6.out.1 (by omega) H2.out.2.1 (by omega)).mono ?_
  rintro e w7 ⟨v7, rfl, hp7, hB7⟩
  obtain ⟨A7, c7, rfl, hc7, hl7⟩ := hp7.lst encT_len
  have H7 := hide (And.intro hl7 (And.intro ((H6.out.1.below hB7).more hB7.size) hB7))
  clear hl7 hp7 hB7 hc7
  go_wp2_with fail
  refine (finest13_any A2 c2 s 3 T w7 H7.out.2.1 (by omega) H2.out.2.1 (by omega)).mono ?_
  rintro e w8 ⟨v8, rfl, hp8, hB8⟩
  obtain ⟨A8, c8, rfl, hc8, hl8⟩ := hp8.lst encT_len
  have hF2 := finestT_facts (b := s) (most := 3) hTl H2.out.2.1
  have hsame2 := same_any A7 A8 c7 c8 (finestT s 3 T) (finestT s 3 T) w8 w7.heap.size w8.heap.size (H7.out.1.below hB8) hl8 (by omega) (by omega)
    (fun p hp => by have := hF2.2.1 p hp; omega) (fun p hp => by have := hF2.2.1 p hp; omega) hF2.2.2 hF2.2.2
  rw [decide_eq_true rfl] at hsame2
  have H8 := hide (And.intro hsame2 (H7.out.2.2.trans (hB8.mono H7.out.2.2.size)))
  clear hsame2 hp8 hB8 hl8 hc8 hF2
  go_wp2_with fail
  refine H8.out.1.mono ?_
  rintro e w9 ⟨rfl, nn9, rfl⟩
  go_wp2
  go_ret
  exact ⟨rfl, below_drewN (H2.out.2.2.trans ((H6.out.2.mono (H2.out.2.2.size)).trans (H8.out.2.mono (by have := H2.out.2.2.size; have := H6.out.2.size; omega)))) nn9⟩
end Go.Proofs.Ytgndbpkgehjelaa
