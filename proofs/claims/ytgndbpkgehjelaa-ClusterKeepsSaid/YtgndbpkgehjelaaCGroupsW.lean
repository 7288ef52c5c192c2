/- ClusterGroups: the walk. -/
import Derived.IntWalk
import Derived.Test.YtgndbpkgehjelaaCB17
import Derived.Test.YtgndbpkgehjelaaCB28
import Derived.Test.YtgndbpkgehjelaaCSplits
import Derived.Test.YtgndbpkgehjelaaCGroupsLaw
namespace Go.Proofs.Ytgndbpkgehjelaa
open Go.RowKit Go.Sort
theorem made_seen (n : Nat) : madeCells #[Value.bool false] n = seenA n [] := by
  rw [seenA_nil]
  apply Array.ext_getElem?
  intro i
  rw [Array.getElem?_replicate]
  by_cases h : i < n
  · rw [if_pos h]; simp [madeCells, h, Nat.mod_one]
  · rw [if_neg h]
    exact Array.getElem?_eq_none (by simp [madeCells]; omega)
theorem infoB : (Try.prog.info? 4).map (fun i => (i.zero, i.size, i.bytes)) = some (some (.bool false), 1, 1) := by kernel_rfl
theorem fits_soupL {ns cuts : List _} : ∀ p ∈ listsL (soupL ns) cuts, p.length ≤ 40 ∧ ∀ t ∈ p, fitsT t := fun p hp => by
  have h := (listsL_facts (soupL ns) cuts).2.2 p hp
  have := soupL_length ns
  exact ⟨by omega, fun t ht => fits_soup ns t (h.2 t ht)⟩
set_option maxRecDepth 100000 in
set_option maxHeartbeats 16000000 in
theorem groups_walk (A : Option Addr) (c : Nat) (ns : List Tri) (B : Option Addr) (d : Nat) (cuts : List Nat) (n : Nat) (w : World) (hs : ns ≠ [] → Sl encT 9 w w.heap.size A ns) (hl : ns.length ≤ 9223372036854775807)
    (hcs : cuts ≠ [] → Sl encB 1 w w.heap.size B cuts) (hcb : ∀ x ∈ cuts, x < 256) (hcl : cuts.length ≤ 9223372036854775807) (hn : n < 256) :
    Calls Try.prog 6 #[.slice A ns.length c, .slice B cuts.length d, .int .u8 n] w fun e w' => e = .returned (.bool true) ∧ Below w.heap.size w w' := by
  have hmk := fun (k : Nat) (h : 1 * k ≤ 281474976710656) => run_make_row' (P := Try.prog) 29 4 (.bool false) 1 Try.underlying29 infoB rfl .i64 .i64 k h (by omega)
  have H := hide (And.intro hs (And.intro hcs (And.intro hcb hmk)))
  clear hs hcs hcb hmk
  go_enter Try.func6, Try.ntmps6
  go_wp2_with fail
  refine (sanity_any _).mono ?_
  rintro e w1 ⟨rfl, hB1⟩
  have H1 := hide hB1
  clear hB1
  go_wp2_with fail
  with_reducible refine (soup_any A c ns w1 (fun hne => ((H.out.1 hne).below H1.out).more H1.out.size) hl).mono ?_
  rintro e w2 ⟨u, rfl, hown, hB2⟩
  have hfX := fits_soupL (ns := ns) (cuts := cuts)
  have hXl := listsL_facts (soupL ns) cuts
  have hTl := soupL_length ns
  obtain ⟨T, hT⟩ : ∃ T, T = soupL ns := ⟨_, rfl⟩
  rw [← hT] at hown hfX hXl hTl
  obtain ⟨A2, c2, rfl⟩ := hown.form
  have hlists := lists_any A2 B c2 d T cuts w2 (hown.sl encT_len (Nat.le_refl _)) hown.place.1 (by omega) (fun hne => ((H.out.2.1 hne).below (H1.out.trans (hB2.mono H1.out.size))).more (by have := H1.out.size; have := hB2.size; omega)) H.out.2.2.1 hcl
  obtain ⟨X, hX⟩ : ∃ X, X = listsL T cuts := ⟨_, rfl⟩
  rw [← hX] at hlists hfX hXl
  obtain ⟨N, hN⟩ : ∃ N, N = X.length := ⟨_, rfl⟩
  rw [← hN] at hlists hXl
  have HN := hide hN
  clear hN
  have H2 := hide (And.intro hlists (And.intro (H1.out.trans (hB2.mono H1.out.size)) (And.intro hfX hXl)))
  clear hlists hB2 hown hT hfX hXl hX
  go_wp2_with fail
  with_reducible refine H2.out.1.mono ?_
  rintro e w3 ⟨Ax, cx, rfl, hcx, hlst, hB3⟩
  obtain ⟨b9, hb9⟩ : ∃ b9 : Int, b9 = (n : Int) % 9 := ⟨_, rfl⟩
  have hb9' : (n : Int) % 9 = b9 := hb9.symm
  have hXn := H2.out.2.2.2.1
  obtain ⟨V, hV⟩ : ∃ V, V = w3.alloc (.cells #[.bool false, .bool true] 4) := ⟨_, rfl⟩
  have hRV : RB w3 V := by rw [hV]; exact RB.alloc _ _
  have hbV : Blk V w3.heap.size 4 #[.bool false, .bool true] := by rw [hV]; exact Blk.new _ _ _
  have H3 := hide (And.intro hbV (And.intro ((hlst.below hRV).more hRV.size) (And.intro ((H2.out.2.1.trans (hB3.mono H2.out.2.1.size)).trans (hRV.mono (by have := H2.out.2.1.size; have := hB3.size; omega))) hcx)))
  clear hbV hlst hcx hRV hB3
  have HV := hide hV
  have HB9 := hide hb9
  clear hV hb9
  go_wp2
  rw [← HV.out]
  go_loopw [26] (fun i wr => ∃ m : Nat, m ≤ 2 ∧ i = .int .i64 m ∧ RB V wr) (fun i _ => 2 - (intOf i).toNat)
  case atStart => exact ⟨0, by omega, rfl, RB.refl _⟩
  case round =>
    obtain ⟨m, hm, rfl, hR⟩ := hrel
    by_cases hlm : m < 2
    · obtain ⟨sh, hsh⟩ : ∃ sh : Bool, wr.cell? ⟨w3.heap.size, m, none⟩ = some (.bool sh) := by
        have hbj := H3.out.1.below hR H3.out.1.lt
        have hc : m = 0 ∨ m = 1 := by omega
        rcases hc with rfl | rfl
        · exact ⟨false, hbj.cell 0⟩
        · exact ⟨true, hbj.cell 1⟩
      have hlr : LstE encT 9 wr wr.heap.size Ax X := (H3.out.2.1.below hR).more hR.size
      obtain ⟨G, hG⟩ : ∃ G, G = groupsL X b9 sh := ⟨_, rfl⟩
      have hcal := groups_any Ax cx X b9 sh wr hlr (by have := HN.out; have := H3.out.2.2.2; omega) (by have := HN.out; omega) (fun p hp => by have := (H2.out.2.2.1 p hp).1; omega) (fun p hp => (H2.out.2.2.1 p hp).2)
      rw [← hG, ← HN.out] at hcal
      have i1 : (m : Int) < 2 := by omega
      have HM := hide (And.intro hcal (And.intro hlr (And.intro hG hR)))
      clear hcal hlr hG hR
      go_wp2_with fail
      with_reducible refine HM.out.1.mono ?_
      rintro e w4 ⟨v4, rfl, hp4, hB4⟩
      obtain ⟨A4, c4, rfl, hc4, hl4⟩ := hp4.lst encI_len
      have hcal5 := groups13_any Ax cx X b9 sh w4 ((HM.out.2.1.below hB4).more hB4.size) (by have := HN.out; omega) (fun p hp => by have := (H2.out.2.2.1 p hp).1; omega) (fun p hp => (H2.out.2.2.1 p hp).2)
      rw [← HM.out.2.2.1, ← HN.out] at hcal5
      have H4 := hide (And.intro hcal5 (And.intro hl4 hB4))
      clear hcal5 hl4 hB4 hp4 hc4
      go_wp2_with fail
      with_reducible refine H4.out.1.mono ?_
      rintro e w5 ⟨v5, rfl, hp5, hB5⟩
      obtain ⟨A5, c5, rfl, hc5, hl5⟩ := hp5.pcs.lst encI_len
      have hGl : G.length ≤ 21 := by rw [HM.out.2.2.1]; have := groupsL_length X b9 sh; have := HN.out; omega
      have hGm : ∀ g ∈ G, (∀ k ∈ g, k < X.length) ∧ g.length ≤ X.length ∧ 0 < g.length ∧ ∀ k ∈ g, ∀ j ∈ g, keyL X b9 sh k = keyL X b9 sh j := by rw [HM.out.2.2.1]; exact fun g hg => groupsL_mem hg
      have hsame := sameI_any A4 A5 c4 c5 G G w5 w4.heap.size w5.heap.size (H4.out.2.1.below hB5) hl5 (by omega) (by omega) (fun p hp => by have := (hGm p hp).2.1; have := HN.out; omega) (fun p hp => by have := (hGm p hp).2.1; have := HN.out; omega)
      rw [decide_eq_true rfl] at hsame
      have H5 := hide (And.intro hsame (And.intro hB5 hGm))
      clear hsame hB5 hl5 hp5 hc5 hGm
      go_wp2_with fail
      with_reducible refine H5.out.1.mono ?_
      rintro e w6' ⟨rfl, nn, rfl⟩
      have hR6 : RB V (w5.drewN nn) := below_drewN ((HM.out.2.2.2.trans _ _ _ H4.out.2.2).trans _ _ _ H5.out.2.1) nn
      have hl6 : LstE encI 1 (w5.drewN nn) w4.heap.size A4 G := (H4.out.2.1.below H5.out.2.1).drewN nn
      have hz46 : w4.heap.size ≤ (w5.drewN nn).heap.size := H5.out.2.1.size
      obtain ⟨w6, hw6⟩ : ∃ w6, w6 = w5.drewN nn := ⟨_, rfl⟩
      rw [← hw6] at hR6 hl6 hz46 ⊢
      have hlx6 : LstE encT 9 w6 V.heap.size Ax X := H3.out.2.1.below hR6
      have hzV6 := hR6.size
      have hmk6 := H.out.2.2.2 N (by omega)
      have hN := HN.out
      have hmk7 : ∀ W : World, (Instr.makeSlice 29 (.int .i64 (N : Int)) (.int .i64 (N : Int))).run Try.prog W = .ok (.slice (some ⟨W.heap.size, 0, none⟩) N N) (W.alloc (.cells (seenA N []) 4)) := fun W => by
        rw [hmk6 W, made_seen]
      have hflat : List.Perm G.flatten (List.range N) := by rw [HM.out.2.2.1, hN]; exact groupsL_flat X b9 sh
      have hnd : G.flatten.Nodup := hflat.nodup_iff.2 List.nodup_range
      have hbs6 : Blk (w6.alloc (.cells (seenA N []) 4)) w6.heap.size 4 (seenA N []) := Blk.new _ _ _
      have H6 := hide (And.intro hR6 (And.intro hl6 (And.intro hlx6 (And.intro hflat (And.intro hnd (And.intro hN (And.intro hbs6 hz46)))))))
      clear hR6 hl6 hlx6 hflat hnd hN hmk6 hw6 hbs6
      go_wp2
      clear hmk7 hsh
      go_loopw [50] (fun i wr => ∃ q : Nat, q ≤ G.length ∧ i = .int .i64 q ∧ Blk wr w6.heap.size 4 (seenA N (seenL G q 0)) ∧ Below w6.heap.size w6 wr) (fun i _ => G.length - (intOf i).toNat)
      case atStart => exact ⟨0, by omega, rfl, by simpa [seenL] using H6.out.2.2.2.2.2.2.1, (Below.refl _ w6).alloc (Nat.le_refl _) _⟩
      case round =>
        obtain ⟨q, hq, rfl, hbs, hB⟩ := hrel
        by_cases hlq : q < G.length
        · obtain ⟨g, hg⟩ : ∃ g, G[q]? = some g := ⟨_, List.getElem?_eq_getElem hlq⟩
          obtain ⟨hgm, hgl, hg0, hgk⟩ := H5.out.2.2 g (List.mem_of_getElem? hg)
          obtain ⟨bg, og, Ag, cg, hAg, hbg, hcg, hslg⟩ := (H6.out.2.1.below (Below.mono hB H6.out.2.2.2.2.2.2.2)).at hg
          subst hAg
          have i2 : (q : Int) < (G.length : Int) := by omega
          obtain ⟨k0, hk0⟩ : ∃ k, g[0]? = some k := ⟨_, List.getElem?_eq_getElem hg0⟩
          have HQ := hide (And.intro hbs (And.intro hB (And.intro hg (And.intro hgm (And.intro hgk (And.intro hslg hk0))))))
          have hgl21 : g.length ≤ 21 := by have := H6.out.2.2.2.2.2.1; omega
          clear hbs hB hg hgm hgk hslg hk0 hgl
          go_wp2
          clear hcg
          obtain ⟨R, hRR⟩ : ∃ R, R = wr := ⟨_, rfl⟩
          rw [← hRR] at HQ ⊢
          clear hRR
          go_loopw [56] (fun i wr => ∃ j : Nat, j ≤ g.length ∧ i = .int .i64 j ∧ Blk wr w6.heap.size 4 (seenA N (seenL G q j)) ∧ Below w6.heap.size w6 wr) (fun i _ => g.length - (intOf i).toNat)
          case atStart => exact ⟨0, by omega, rfl, HQ.out.1, HQ.out.2.1⟩
          case round =>
            obtain ⟨j, hj, rfl, hbs, hB⟩ := hrel
            have hszB := hB.size
            have hz6 := hbs.lt
            by_cases hlj : j < g.length
            · obtain ⟨k, hk⟩ : ∃ k, g[j]? = some k := ⟨_, List.getElem?_eq_getElem hlj⟩
              have hkN := HQ.out.2.2.2.1 k (List.mem_of_getElem? hk)
              have hk0N := HQ.out.2.2.2.1 k0 (List.mem_of_getElem? HQ.out.2.2.2.2.2.2)
              have hkey := HQ.out.2.2.2.2.1 k (List.mem_of_getElem? hk) k0 (List.mem_of_getElem? HQ.out.2.2.2.2.2.2)
              have hNX := H6.out.2.2.2.2.2.1
              obtain ⟨pk, hpk⟩ : ∃ p, X[k]? = some p := ⟨_, List.getElem?_eq_getElem hkN⟩
              obtain ⟨p0, hp0⟩ : ∃ p, X[k0]? = some p := ⟨_, List.getElem?_eq_getElem hk0N⟩
              have hBV : Below V.heap.size w6 wr := Below.mono hB hzV6
              have hlx := H6.out.2.2.1.below hBV
              obtain ⟨bx, ox, Ak, ck, hAx, hbx, hck, hslk⟩ := hlx.at hpk
              obtain ⟨bx', ox', A0, c0, hAx', hbx', hc0, hsl0⟩ := hlx.at hp0
              rw [hAx] at hAx'
              obtain ⟨rfl, rfl⟩ : bx = bx' ∧ ox = ox' := by injection hAx' with h; injection h with h1 h2; exact ⟨h1, h2⟩
              subst hAx
              have hslg := HQ.out.2.2.2.2.2.1
              have hslgR : Sl encI 1 wr w4.heap.size Ag g := by
                refine hslg.keep fun p hp => ?_
                have hp6 : p.block < w6.heap.size := Nat.lt_of_lt_of_le hp H6.out.2.2.2.2.2.2.2
                exact (hB.cell hp6).trans (HQ.out.2.1.cell hp6).symm
              obtain ⟨bgs, ogs, hAgs, hbgs, hcgj⟩ := hslgR.at hk
              obtain ⟨bgs', ogs', hAgs', _, hcg0⟩ := hslgR.at HQ.out.2.2.2.2.2.2
              rw [hAgs] at hAgs'
              obtain ⟨rfl, rfl⟩ : bgs = bgs' ∧ ogs = ogs' := by injection hAgs' with h; injection h with h1 h2; exact ⟨h1, h2⟩
              subst hAgs
              have cj := hcgj 0 _ rfl
              have c00 := hcg0 0 _ rfl
              simp only [Nat.mul_one, Nat.add_zero] at cj c00
              have hnew := seenL_new H6.out.2.2.2.2.1 HQ.out.2.2.1 hk
              have cs : wr.cell? ⟨w6.heap.size, k, none⟩ = some (.bool false) := by
                rw [hbs.cell, seenA_get _ (by omega)]
                simp [hnew]
              have hqq : blockP pk b9 sh = blockP p0 b9 sh := by
                simpa [keyL, List.getD, hpk, hp0] using hkey
              have hfk := H2.out.2.2.1 pk (List.mem_of_getElem? hpk)
              have hf0 := H2.out.2.2.1 p0 (List.mem_of_getElem? hp0)
              have hz4 := H6.out.2.2.2.2.2.2.2
              have hbxr : bx < wr.heap.size := by omega
              have hbgr : bgs < wr.heap.size := by omega
              have hrk : Calls Try.prog 14 #[.slice Ak pk.length ck, .int .i64 b9, .bool sh] wr.drew fun e w' => e = .returned (vP (blockP p0 b9 sh)) ∧ Below wr.drew.heap.size wr.drew w' := by
                rw [← hqq]
                exact Block_any Ak ck pk b9 sh wr.drew (hslk.more (show V.heap.size ≤ wr.heap.size by omega)) (by have := hfk.1; unfold maxLen; omega) (fitsP_anc hfk.2)
              have hr0 : ∀ W : World, Below wr.heap.size wr W → Calls Try.prog 14 #[.slice A0 p0.length c0, .int .i64 b9, .bool sh] W fun e w' => e = .returned (vP (blockP p0 b9 sh)) ∧ Below W.heap.size W w' := fun W hW =>
                Block_any A0 c0 p0 b9 sh W (((hsl0.more (show V.heap.size ≤ wr.heap.size by omega)).below hW).more hW.size) (by have := hf0.1; unfold maxLen; omega) (fitsP_anc hf0.2)
              have heq : ∀ W : World, (Op.equalIn 10000 23 (vP (blockP p0 b9 sh)) (vP (blockP p0 b9 sh))).run Try.prog W = .ok true W := fun W => by
                rw [eqP _ _ (fitsP_block hf0.2 _ _) (fitsP_block hf0.2 _ _)]; simp
              obtain ⟨P0, hP0⟩ : ∃ P0, P0 = blockP p0 b9 sh := ⟨_, rfl⟩
              rw [← hP0] at hrk hr0 heq
              have HC := hide (And.intro hrk hr0)
              have HJ := hide (And.intro hbs (And.intro hB hk))
              have i3 : (j : Int) < (g.length : Int) := by omega
              have hwr : IntKind.i64.wrap ((n : Int).tmod 9) = b9 := by
                have h1 : (n : Int).tmod 9 = (n : Int) % 9 := Int.tmod_eq_emod_of_nonneg (by omega)
                rw [h1, HB9.out]
                exact IntWalk.i64_in _ (by omega)
              have d1 : decide ((k : Int) < 0) = false := decide_eq_false (by omega)
              have d2 : decide (N ≤ k) = false := decide_eq_false (by omega)
              have i4 : (k : Int) < (N : Int) := by omega
              have i5 : (k0 : Int) < (N : Int) := by omega
              have i6 : (0 : Int) < (g.length : Int) := by omega
              clear hslk hsl0 hslg hslgR hlx hBV hcgj hcg0 hnew hkey hkN hk0N hpk hp0 hqq hfk hf0 hrk hr0 hP0 hbs hB hk hNX hAgs' hAx'
              go_wp2_with fail
              go_region_held3 (fun w' => w'.cell? ⟨w6.heap.size, k, none⟩ = some (.bool false) ∧ w'.cell? ⟨bx, ox + k, none⟩ = some (.slice Ak pk.length ck) ∧ w'.cell? ⟨bgs, ogs, none⟩ = some (.int .i64 k0) ∧ w'.cell? ⟨bx, ox + k0, none⟩ = some (.slice A0 p0.length c0)) (first | go_keep | exact ⟨(hA.cell (p := ⟨_, _, none⟩) hz6).trans cs, (hA.cell (p := ⟨_, _, none⟩) hbxr).trans hck, (hA.cell (p := ⟨_, _, none⟩) hbgr).trans c00, (hA.cell (p := ⟨_, _, none⟩) hbxr).trans hc0⟩ | exact ⟨(hA2.cell (p := ⟨_, _, none⟩) hz6).trans cs, (hA2.cell (p := ⟨_, _, none⟩) hbxr).trans hck, (hA2.cell (p := ⟨_, _, none⟩) hbgr).trans c00, (hA2.cell (p := ⟨_, _, none⟩) hbxr).trans hc0⟩) (first | (go_at_call 14; have hA' := hA; (with_reducible refine (HC.out.2 _ hA).mono ?_); rintro e wB ⟨rfl, hB'⟩; have hA2 := hA.trans (hB'.mono hA.size)) | (go_at_call 14; (with_reducible refine HC.out.1.mono ?_); rintro e wA ⟨rfl, hA0⟩; have hA := (below_drew wr).trans hA0; clear hA0))
              have hbs2 := HJ.out.1.below hA2 HJ.out.1.lt
              have fs := hbs2.frozen k
              have cs2 := (hA2.cell (p := ⟨w6.heap.size, k, none⟩) hz6).trans cs
              have HA := hide (And.intro hA2 hbs2)
              clear hA hA2 hbs2 hB' cs cj c00 hck hc0
              go_wp2
              go_roundw
              case rel =>
                refine ⟨j + 1, by omega, by go_num, ?_, ?_⟩
                · have := HA.out.2.set_ k (.bool true)
                  rw [seenA_set] at this
                  rw [seenL_step HQ.out.2.2.1 HJ.out.2.2]
                  exact this
                · exact (HJ.out.2.1.trans (HA.out.1.mono hszB)).setCell (Nat.le_refl _) _
              case measure => simp [intOf]; omega
            · have hje : j = g.length := by omega
              subst hje
              have HJ := hide (And.intro hbs hB)
              clear hbs hB
              go_wp2
              go_roundw
              case rel => exact ⟨q + 1, by omega, by go_num, by rw [← seenL_next HQ.out.2.2.1]; exact HJ.out.1, HJ.out.2⟩
              case measure => simp [intOf]; omega
        · have hqe : q = G.length := by omega
          subst hqe
          rw [seenL_all] at hbs
          have HQ := hide (And.intro hbs hB)
          clear hbs hB
          go_wp2
          obtain ⟨R, hRR⟩ : ∃ R, R = wr := ⟨_, rfl⟩
          rw [← hRR] at HQ ⊢
          clear hRR
          go_loopw [104] (fun i wr => ∃ t : Nat, t ≤ N ∧ i = .int .i64 t ∧ Blk wr w6.heap.size 4 (seenA N G.flatten) ∧ Below w6.heap.size w6 wr) (fun i _ => N - (intOf i).toNat)
          case atStart => exact ⟨0, by omega, rfl, HQ.out.1, HQ.out.2⟩
          case round =>
            obtain ⟨t, ht, rfl, hbt, hBt⟩ := hrel
            have HT := hide (And.intro hbt hBt)
            clear hbt hBt
            by_cases hlt : t < N
            · have ct : wr.cell? ⟨w6.heap.size, t, none⟩ = some (.bool true) := by
                rw [HT.out.1.cell, seenA_get _ hlt]
                have := H6.out.2.2.2.1.mem_iff.2 (List.mem_range.2 hlt)
                simp only [decide_eq_true this]
              have i7 : (t : Int) < (N : Int) := by omega
              go_wp2
              go_roundw
              case rel => exact ⟨t + 1, by omega, by go_num, HT.out.1, HT.out.2⟩
              case measure => simp [intOf]; omega
            · have hte : t = N := by omega
              subst hte
              go_wp2
              go_roundw
              case rel => exact ⟨m + 1, by omega, by go_num, H6.out.1.trans _ _ _ HT.out.2⟩
              case measure => simp [intOf]; omega
    · have hm2 : m = 2 := by omega
      subst hm2
      have HR := hide hR
      clear hR
      go_wp2
      go_ret
      exact ⟨rfl, H3.out.2.2.1.trans (HR.out.mono H3.out.2.2.1.size)⟩
end Go.Proofs.Ytgndbpkgehjelaa
