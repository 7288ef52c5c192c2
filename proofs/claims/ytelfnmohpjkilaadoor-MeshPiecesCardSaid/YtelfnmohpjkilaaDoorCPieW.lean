/- law04.MeshPieces. -/
import Derived.Test.YtelfnmohpjkilaaDoorCB20
import Derived.Test.YtelfnmohpjkilaaDoorCB23
import Derived.Test.YtelfnmohpjkilaaDoorCVox
import Derived.Test.YtelfnmohpjkilaaDoorCVoxE
namespace Go.Proofs.YtelfnmohpjkilaaDoor
open Go.RowKit Go.Sort Go.WideMaps Go.Maps
set_option maxRecDepth 100000
/-! Pairs of points as keys. -/
theorem rowA4 : (44 : TypeId) < Tryd.prog.types.size := of_decide_eq_true (by kernel_rfl)
theorem wideA4 : (match Tryd.prog.underlying 44 with | some (.array _ _) | some (.struct _) => true | _ => false) = true := by rw [Tryd.underlying44]
theorem lawA4 : KeyLaw Tryd.prog 44 := deep_law_laid laid_ok4 (m := 3) (by omega) rowA4 (by kernel_rfl) wideA4
theorem keyedA4 : Keyed Tryd.prog 44 := Keyed.of_law lawA4
theorem key_someA4 (e : Ed) (he : fitsE e) : ∃ l, keyOf Tryd.prog 44 (vE e) = some l := by
  have k : Tryd.prog.keyType 44 = true := by kernel_rfl
  have c : Tryd.prog.cellsOf 44 = 6 := by kernel_rfl
  have c3 : Tryd.prog.cellsOf 23 = 3 := by kernel_rfl
  obtain ⟨n, hn⟩ : ∃ n, Tryd.prog.types.size + 1 = n + 1 + 1 + 1 := ⟨Tryd.prog.types.size - 2, by have : (44 : Nat) < Tryd.prog.types.size := rowA4; omega⟩
  have h0 := lits_n4 e.1 he.1 n
  have h1 := lits_n4 e.2 he.2 n
  unfold keyOf
  simp only [Tryd.underlying44, k, Value.formed, c, hn, Bool.true_and]
  unfold Program.keyLits
  simp [Tryd.underlying44, c, c3, h0, h1, Value.cells, List.range_succ]
theorem kfA4 : KeyFit Tryd.prog 44 vE fitsE := ⟨keyedA4, key_someA4, fun _ _ => vE_inj4⟩
def SetAM (w : World) (b n : Nat) (L : List Ed) : Prop := MapK Tryd.prog 44 vE fitsE w b n (setK4 L)
theorem lenA4 {w : World} {ob m : Nat} {K : List Ed} (hM : SetAM w ob m K) (hn : K.Nodup) (hf : ∀ p ∈ K, fitsE p) : (Builtin.len_ #[43] 3 #[.map (some ob)]).run Tryd.prog w = .ok (.int .i64 K.length) w := by
  refine MapK.len kfA4 (t := 43) (e := 4) hM Tryd.underlying43 _ hn hf (fun p _ => ?_) _
  unfold setK4
  by_cases h : p ∈ K
  · rw [if_pos h]; exact ⟨fun _ e => (by cases e), fun _ => h⟩
  · rw [if_neg h]; exact ⟨fun h' => absurd h' h, fun h' => absurd rfl h'⟩
def encBo (b : Bool) : List Value := [.bool b]
theorem perm_mid {α : Type} (a b : List α) (t : α) : ((a ++ [t]) ++ b).Perm ((a ++ b) ++ [t]) := by
  rw [List.append_assoc, List.append_assoc]
  exact List.Perm.append_left _ List.perm_append_comm
theorem vox_fitsP {b : Nat → Bool} {o : Pt} {s : Int} (hr : voxR o s) : ∀ t ∈ voxP b o s, fitsT t := by
  intro t ht
  obtain ⟨n, f, hn, _, _, _, hs⟩ := mem_vox ht
  obtain ⟨i, j, l, hi, hj, hl, rfl⟩ := mem_side hs
  obtain ⟨h0, h1, h2, h3⟩ := hr
  have key : ∀ m, m < 8 → fitsP (cor8 (voxC o s n) s m) := fun m hm => by
    have := vox_range (B := 4398046511104) h0.1 (o := o) (by omega) (by omega) (by omega) hn hm
    unfold fitsP fits
    omega
  exact ⟨key _ hi, key _ hj, key _ hl⟩
theorem perm_trip {s t : List Tri} (h : s.Perm t) : (tripP s).Perm (tripP t) := h.flatMap_right tri3
set_option maxHeartbeats 64000000 in
theorem pieces_of (hsan : ∀ W : World, Calls Tryd.prog 6 #[] W fun e w' => e = .returned (.bool true) ∧ Below W.heap.size W w') (n0 : Nat) (A0 : Option Addr) (c0 : Nat) (bs : List Bool) (w : World) (_hn0 : n0 < 4294967296)
    (hs0 : bs ≠ [] → Sl encBo 1 w w.heap.size A0 bs) (_hl : bs.length ≤ 9223372036854775807) :
    Calls Tryd.prog 5 #[.int .u32 n0, .slice A0 bs.length c0] w fun e w' => e = .returned (.bool true) ∧ Below w.heap.size w w' := by
  obtain ⟨b, hb⟩ : ∃ b, b = n0 % 134217728 := ⟨_, rfl⟩
  have hb27 : b < 134217728 := by omega
  have ha := and_27 n0
  rw [← hb] at ha
  have hr : voxR (0, 0, 0) 1 := by unfold voxR; dsimp only; omega
  obtain ⟨L, hL⟩ : ∃ L, L = voxP b.testBit (0, 0, 0) 1 := ⟨_, rfl⟩
  have hvx := fun W => voxels_any b hb27 1 (0, 0, 0) W hr
  simp only [← hL] at hvx
  have hfit : ∀ t ∈ L, fitsT t := by rw [hL]; exact vox_fitsP hr
  have hlen : L.length ≤ 324 := by rw [hL]; exact voxP_le _ _ _
  obtain ⟨M, hM⟩ : ∃ M, M = bs.length := ⟨_, rfl⟩
  rw [← hM]
  have HS := hide hsan
  have HV := hide hvx
  have HM := hide (And.intro hs0 hM)
  have HL := hide (And.intro hfit hlen)
  clear hsan hvx hfit hlen hL hb hr hs0 hM
  go_enter Tryd.func5, Tryd.ntmps5
  go_upto_region 2 with (go_at_call 6; refine (HS.out w).mono ?_; rintro e X1 ⟨rfl, hB1⟩; have H1 := hide hB1; clear hB1)
  go_upto_region 3 with (go_at_call 9; refine (HV.out X1).mono ?_; rintro e Y ⟨v, rfl, ho, hB2⟩; obtain ⟨TA, tc, rfl⟩ := ho.form; have h2 := H1.out.trans (hB2.mono H1.out.size); have h3 := ho.sl encT_len (Nat.le_refl _); have H2 := hide (And.intro h2 h3); clear h2 h3 ho hB2)
  clear ha
  obtain ⟨N, hN⟩ : ∃ N, N = L.length := ⟨_, rfl⟩
  have hN4 : N ≤ 324 := by rw [hN]; exact HL.out.2
  rw [← hN]
  have HN := hide hN
  have k1 : Calls Tryd.prog 10 #[.slice TA N tc] Y fun e w' => e = .returned (.int .i64 (checkP L false)) ∧ Below Y.heap.size Y w' := by
    have := Check4_any TA tc L Y H2.out.2 (by have := HL.out.2; omega) HL.out.1
    rw [← HN.out] at this; exact this
  obtain ⟨E, hE⟩ : ∃ E, E = checkP L false := ⟨_, rfl⟩
  rw [← hE] at k1
  have K1 := hide k1
  clear hN k1
  by_cases hE0 : E = 0
  · have HE := hide (show checkP L false = 0 by rw [← hE]; exact hE0)
    subst hE0
    clear hE
    go_upto_region 5 with (go_at_call 10; refine K1.out.mono ?_; rintro e Y1 ⟨rfl, hB⟩; have h2 := H2.out.1.trans (hB.mono H2.out.1.size); have h3 := (H2.out.2.below hB).more hB.size; have H3 := hide (And.intro h2 h3); clear h2 h3 hB)
    clear K1 H2
    go_wp2_with fail
    go_loopw [7, 8, 29] (fun va vb iv wr => ∃ (k na nb : Nat) (xa xb : List Tri), k ≤ N ∧ iv = .int .i64 k ∧ Own encT 9 26 wr Y1.heap.size va na xa ∧ Own encT 9 26 wr Y1.heap.size vb nb xb ∧ (∀ g, va.ownBlock = some g → vb.ownBlock ≠ some g) ∧ (xa ++ xb).Perm (L.take k) ∧ Below Y1.heap.size Y1 wr) (fun _ _ iv _ => N - (intOf iv).toNat)
    case atStart => exact ⟨0, 0, 0, [], [], by omega, rfl, Own.nil, Own.nil, (fun g h => by cases h), by simp, Below.refl _ Y1⟩
    case round =>
      obtain ⟨k, na, nb, xa, xb, hk, rfl, hoa, hob, hD, hp, hB⟩ := hrel
      obtain ⟨V, rfl⟩ : ∃ x, x = wr := ⟨_, rfl⟩
      have hna : na ≤ 324 := by have h1 := hp.length_eq; rw [List.length_append, List.length_take] at h1; have h2 := hoa.1; omega
      have hnb : nb ≤ 324 := by have h1 := hp.length_eq; rw [List.length_append, List.length_take] at h1; have h2 := hob.1; omega
      by_cases hlt : k < N
      · have i2 : (k : Int) < (N : Int) := by omega
        obtain ⟨t, ht⟩ : ∃ t, L[k]? = some t := ⟨_, List.getElem?_eq_getElem (by rw [← HN.out]; exact hlt)⟩
        have hnx : L.take (k + 1) = L.take k ++ [t] := by rw [List.take_add_one, ht]; rfl
        obtain ⟨b0, o0, hA, hbb, g0, g1, g2, g3, g4, g5, g6, g7, g8⟩ := (H3.out.2.below hB).tri ht
        subst hA
        obtain ⟨⟨x1, x2, x3⟩, ⟨x4, x5, x6⟩, x7, x8, x9⟩ := t
        dsimp only at g0 g1 g2 g3 g4 g5 g6 g7 g8
        have hzV := hB.size
        have HK := hide (And.intro hoa (And.intro hob (And.intro hD (And.intro hp (And.intro hB hnx)))))
        clear hoa hob hD hp hB hnx ht
        go_upto_region 9 with fail
        clear g0 g1 g2 g3 g4 g5 g6 g7 g8
        obtain ⟨tb, htb⟩ : ∃ g, g = V.heap.size := ⟨_, rfl⟩
        obtain ⟨V1, hV1⟩ : ∃ W, W = V.alloc (.cells #[.int .i64 x1, .int .i64 x2, .int .i64 x3, .int .i64 x4, .int .i64 x5, .int .i64 x6, .int .i64 x7, .int .i64 x8, .int .i64 x9] 26) := ⟨_, rfl⟩
        rw [← hV1, ← htb]
        have hbt : Blk V1 tb 26 #[.int .i64 x1, .int .i64 x2, .int .i64 x3, .int .i64 x4, .int .i64 x5, .int .i64 x6, .int .i64 x7, .int .i64 x8, .int .i64 x9] := by rw [hV1, htb]; exact Blk.new _ _ _
        have hoa1 : Own encT 9 26 V1 Y1.heap.size u7 na xa := by rw [hV1]; exact HK.out.1.alloc _
        have hob1 : Own encT 9 26 V1 Y1.heap.size u8 nb xb := by rw [hV1]; exact HK.out.2.1.alloc _
        have hB1 : Below Y1.heap.size Y1 V1 := by rw [hV1]; exact HK.out.2.2.2.2.1.alloc hzV _
        have HV1 := hide (And.intro hoa1 (And.intro hob1 (And.intro hbt hB1)))
        clear hoa1 hob1 hbt hB1 hV1 htb hzV
        go_cut [45] (fun v wx => (∃ q, v = .bool q) ∧ wx = V1)
        case first =>
          by_cases hM0 : 0 < M
          · have i3 : (0 : Int) < (M : Int) := by omega
            obtain ⟨j, hj⟩ : ∃ j, j = k % M := ⟨_, rfl⟩
            have hjM : j < M := by rw [hj]; exact Nat.mod_lt _ hM0
            have tm : (k : Int) % (M : Int) = (j : Int) := by rw [hj]; exact (Int.natCast_emod k M).symm
            have tm2 : (k : Int).tmod (M : Int) = (j : Int) := by rw [Int.tmod_eq_emod_of_nonneg (by omega)]; exact tm
            have hne : bs ≠ [] := fun h => by have := HM.out.2; rw [h] at this; simp at this; omega
            obtain ⟨q, hq⟩ : ∃ q, bs[j]? = some q := ⟨_, List.getElem?_eq_getElem (by rw [← HM.out.2]; exact hjM)⟩
            have hB0 : Below w.heap.size w V1 := H3.out.1.trans (HV1.out.2.2.2.mono H3.out.1.size)
            obtain ⟨ab, ao, hA0, hlt0, hc0⟩ := ((HM.out.1 hne).below hB0).at hq
            have hc := hc0 0 _ rfl
            subst hA0
            have hM00 : ¬ M = 0 := by omega
            have i4 : ¬ (M : Int) = 0 := by omega
            rw [show ao + j * 1 + 0 = ao + j by omega] at hc
            clear hc0 hB0 hj hne hq
            go_wp2
            go_meet
            case rel => exact ⟨⟨_, rfl⟩, rfl⟩
          · have i3 : ¬ (0 : Int) < (M : Int) := by omega
            go_wp2
            go_meet
            case rel => exact ⟨⟨_, rfl⟩, rfl⟩
        case rest =>
        obtain ⟨⟨q, rfl⟩, hw⟩ := hcut
        obtain rfl : V1 = wc := hw.symm
        have hzV := HV1.out.2.2.2.size
        have g0 : V1.cell? ⟨tb, 0, none⟩ = _ := HV1.out.2.2.1.cell 0
        have g1 : V1.cell? ⟨tb, 1, none⟩ = _ := HV1.out.2.2.1.cell 1
        have g2 : V1.cell? ⟨tb, 2, none⟩ = _ := HV1.out.2.2.1.cell 2
        have g3 : V1.cell? ⟨tb, 3, none⟩ = _ := HV1.out.2.2.1.cell 3
        have g4 : V1.cell? ⟨tb, 4, none⟩ = _ := HV1.out.2.2.1.cell 4
        have g5 : V1.cell? ⟨tb, 5, none⟩ = _ := HV1.out.2.2.1.cell 5
        have g6 : V1.cell? ⟨tb, 6, none⟩ = _ := HV1.out.2.2.1.cell 6
        have g7 : V1.cell? ⟨tb, 7, none⟩ = _ := HV1.out.2.2.1.cell 7
        have g8 : V1.cell? ⟨tb, 8, none⟩ = _ := HV1.out.2.2.1.cell 8
        simp only [List.getElem?_toArray, List.getElem?_cons_zero, List.getElem?_cons_succ] at g0 g1 g2 g3 g4 g5 g6 g7 g8
        cases q with
        | true =>
          go_wp2_with (at_builtin; refine wpList_append1 rfl _ _ _ rfl Tryd.underlying27 infoT rfl (by omega) encT_len encT_one rfl (HV1.out.1.alloc _) V1.heap.size 1 ((x1, x2, x3), (x4, x5, x6), x7, x8, x9) rfl (Blk.new _ _ _) (by unfold maxLen; omega) (by omega) (by simp; omega) ?_; intro g cap w5 hown5 hg5 hB5 hat5 hgb5 hlt5)
          have hob5 : Own encT 9 26 w5 Y1.heap.size u8 nb xb := (HV1.out.2.1.alloc _).kept hg5 (by
            cases hbo : u8.ownBlock with
            | none => exact .inl rfl
            | some g' => exact .inr fun h => HK.out.2.2.1 g' h.symm hbo)
          have hD5 : ∀ g', (Value.slice (some ⟨g, 0, none⟩) (na + 1) cap).ownBlock = some g' → u8.ownBlock ≠ some g' := fun g' h e => by
            have hgg : g = g' := by simpa [Value.ownBlock] using h
            subst hgg
            rcases hat5 with h1 | h1
            · exact HK.out.2.2.1 g h1 e
            · have h2 := (HV1.out.2.1.blk g e).2
              simp at h1
              omega
          have H5 := hide (And.intro hown5 (And.intro hob5 (And.intro hD5 ((HV1.out.2.2.2.alloc hzV _).trans hB5))))
          clear hown5 hg5 hB5 hat5 hgb5 hlt5 hob5 hD5
          go_roundw
          case rel => exact ⟨k + 1, na + 1, nb, xa ++ [((x1, x2, x3), (x4, x5, x6), x7, x8, x9)], xb, by omega, by go_num, H5.out.1, H5.out.2.1, H5.out.2.2.1, by rw [HK.out.2.2.2.2.2]; exact (perm_mid xa xb _).trans (HK.out.2.2.2.1.append_right _), H5.out.2.2.2⟩
          case measure => (simp [intOf]; try omega)
        | false =>
          go_wp2_with (at_builtin; refine wpList_append1 rfl _ _ _ rfl Tryd.underlying27 infoT rfl (by omega) encT_len encT_one rfl (HV1.out.2.1.alloc _) V1.heap.size 1 ((x1, x2, x3), (x4, x5, x6), x7, x8, x9) rfl (Blk.new _ _ _) (by unfold maxLen; omega) (by omega) (by simp; omega) ?_; intro g cap w5 hown5 hg5 hB5 hat5 hgb5 hlt5)
          have hoa5 : Own encT 9 26 w5 Y1.heap.size u7 na xa := (HV1.out.1.alloc _).kept hg5 (by
            cases hbo : u7.ownBlock with
            | none => exact .inl rfl
            | some g' => exact .inr fun h => HK.out.2.2.1 g' hbo h.symm)
          have hD5 : ∀ g', u7.ownBlock = some g' → (Value.slice (some ⟨g, 0, none⟩) (nb + 1) cap).ownBlock ≠ some g' := fun g' e h => by
            have hgg : g = g' := by simpa [Value.ownBlock] using h
            subst hgg
            rcases hat5 with h1 | h1
            · exact HK.out.2.2.1 g e h1
            · have h2 := (HV1.out.1.blk g e).2
              simp at h1
              omega
          have H5 := hide (And.intro hoa5 (And.intro hown5 (And.intro hD5 ((HV1.out.2.2.2.alloc hzV _).trans hB5))))
          clear hown5 hg5 hB5 hat5 hgb5 hlt5 hoa5 hD5
          go_roundw
          case rel => exact ⟨k + 1, na, nb + 1, xa, xb ++ [((x1, x2, x3), (x4, x5, x6), x7, x8, x9)], by omega, by go_num, H5.out.1, H5.out.2.1, H5.out.2.2.1, by rw [HK.out.2.2.2.2.2, ← List.append_assoc]; exact HK.out.2.2.2.1.append_right _, H5.out.2.2.2⟩
          case measure => (simp [intOf]; try omega)
      · obtain rfl : k = N := by omega
        have i2 : ¬ (k : Int) < (k : Int) := by omega
        rw [List.take_of_length_le (by rw [← HN.out]; exact Nat.le_refl _)] at hp
        obtain ⟨Aa, ca, rfl⟩ := hoa.form
        obtain ⟨Ab, cb, rfl⟩ := hob.form
        have htr := perm_trip hp
        have hck : checkP (xa ++ xb) false = 0 := by rw [check_perm htr]; exact HE.out
        have hc2 := check_iff.1 hck
        have hck1 : checkP (xa ++ xb) true = 0 := check_iff.2 ⟨hc2.1, hc2.2.1, .inl rfl, hc2.2.2.2⟩
        have hca : checkP xa true = 0 := piece_check hck1
        have hcb : checkP xb true = 0 := piece_check (a := xb) (b := xa) (by rw [check_perm (perm_trip List.perm_append_comm)]; exact hck1)
        have hcl := closed_swap (l := xa ++ xb) (by rcases hc2.2.2.1 with h | h; cases h; exact h)
        have hbe := piece_border hc2.2.1 hcl
        have hble := piece_border_len hc2.2.1 hcl
        have hfa : ∀ t ∈ xa, fitsT t := fun t ht => HL.out.1 t (hp.mem_iff.1 (List.mem_append.2 (.inl ht)))
        have hfb : ∀ t ∈ xb, fitsT t := fun t ht => HL.out.1 t (hp.mem_iff.1 (List.mem_append.2 (.inr ht)))
        have hsa : Sl encT 9 V V.heap.size Aa xa := hoa.sl encT_len (Nat.le_refl _)
        have hsb : Sl encT 9 V V.heap.size Ab xb := hob.sl encT_len (Nat.le_refl _)
        have hna2 := hoa.1
        have hnb2 := hob.1
        have kb : ∀ W, Below V.heap.size V W → Calls Tryd.prog 14 #[.slice Ab nb cb] W fun e w' => ∃ v, e = .returned v ∧ Own encE 6 44 w' W.heap.size v (borderP xb).length (borderP xb) ∧ Below W.heap.size W w' := fun W h => by
          have := Border4_any Ab cb xb W ((hsb.below h).more h.size) (by omega) hfb
          rw [← hnb2] at this; exact this
        have ka : ∀ W, Below V.heap.size V W → Calls Tryd.prog 14 #[.slice Aa na ca] W fun e w' => ∃ v, e = .returned v ∧ Own encE 6 44 w' W.heap.size v (borderP xb).length (borderP xa) ∧ Below W.heap.size W w' := fun W h => by
          have := Border4_any Aa ca xa W ((hsa.below h).more h.size) (by omega) hfa
          rw [← hna2, hble] at this; exact this
        have qa : ∀ W, Below V.heap.size V W → Calls Tryd.prog 15 #[.slice Aa na ca] W fun e w' => e = .returned (.int .i64 0) ∧ Below W.heap.size W w' := fun W h => by
          have := CheckOpen4_any Aa ca xa W ((hsa.below h).more h.size) (by omega) hfa
          rw [← hna2, hca] at this; exact this
        have qb : ∀ W, Below V.heap.size V W → Calls Tryd.prog 15 #[.slice Ab nb cb] W fun e w' => e = .returned (.int .i64 0) ∧ Below W.heap.size W w' := fun W h => by
          have := CheckOpen4_any Ab cb xb W ((hsb.below h).more h.size) (by omega) hfb
          rw [← hnb2, hcb] at this; exact this
        obtain ⟨BB, hBB⟩ : ∃ l, l = borderP xb := ⟨_, rfl⟩
        obtain ⟨BA, hBA⟩ : ∃ l, l = borderP xa := ⟨_, rfl⟩
        have hnBB : BB.Nodup := by rw [hBB]; exact ((border_both xb).1).nodup sto_E
        have hfBB : ∀ e ∈ BB, fitsE e := fun e he => by rw [hBB] at he; exact edgesP_fits hfb e (((border_both xb).2 e).1 he).1
        have hfBA : ∀ e ∈ BA, fitsE e := fun e he => by rw [hBA] at he; exact edgesP_fits hfa e (((border_both xa).2 e).1 he).1
        obtain ⟨q, hq⟩ : ∃ q, q = BB.length := ⟨_, rfl⟩
        have hq2 : q = BA.length := by rw [hq, hBB, hBA, hble]
        have hqb : q ≤ 300000000 := by rw [hq, hBB]; have := borderP_le xb; omega
        rw [← hBB, ← hq] at kb
        rw [← hBB, ← hq, ← hBA] at ka
        rw [← hBB, ← hBA] at hbe
        have HK := hide (And.intro kb (And.intro ka (And.intro qa qb)))
        have HB := hide (And.intro hnBB (And.intro hfBB (And.intro hfBA (And.intro hq (And.intro hq2 hbe)))))
        have HZ := hide (H3.out.1.trans (hB.mono H3.out.1.size))
        clear kb ka qa qb hnBB hfBB hfBA hq hq2 hbe hBB hBA htr hck hc2 hck1 hca hcb hcl hble hfa hfb hsa hsb hna2 hnb2 hoa hob hD hp hB
        have hmm := @run_makeMap Tryd.prog
        go_upto_region 14 with fail
        obtain ⟨X, hX⟩ : ∃ X, X = V.alloc (.map #[] 0) := ⟨_, rfl⟩
        obtain ⟨mb, hmb⟩ : ∃ g, g = V.heap.size := ⟨_, rfl⟩
        rw [← hX, ← hmb]
        have hBX : Below V.heap.size V X := by rw [hX]; exact (Below.refl _ V).alloc (Nat.le_refl _) _
        have hMX : SetAM X mb 0 [] := by rw [hX, hmb]; exact (MapK.made Tryd.prog 44 vE fitsE V).same fun p => by simp [setK4]
        have hzX : mb < X.heap.size := by rw [hX, hmb]; simp
        have HX := hide (And.intro hBX (And.intro hMX (And.intro hzX (show V.heap.size ≤ mb by omega))))
        clear hX hBX hMX hmm hzX hmb
        go_wp2_with (go_at_call 14; refine (HK.out.1 X HX.out.1).mono ?_; rintro e W3 ⟨v, rfl, ho, hB⟩; obtain ⟨A3, c3, rfl⟩ := ho.form; have h1 := HX.out.1.trans (hB.mono HX.out.1.size); have h2 := HX.out.2.1.below hB HX.out.2.2.1; have H4 := hide (And.intro ho (And.intro h1 h2)); clear ho h1 h2 hB)
        go_loopw [59] (fun iv wr => ∃ (j cnt : Nat), j ≤ q ∧ iv = .int .i64 j ∧ cnt ≤ j ∧ SetAM wr mb cnt ((BB.take j).map swapE) ∧ Own encE 6 44 wr X.heap.size (.slice A3 q c3) q BB ∧ Below V.heap.size V wr) (fun iv _ => q - (intOf iv).toNat)
        case atStart => exact ⟨0, 0, by omega, rfl, by omega, H4.out.2.2, H4.out.1, H4.out.2.1⟩
        case round =>
          obtain ⟨j, cnt, hj, rfl, hcnt, hM, hO, hB⟩ := hrel
          obtain ⟨T, rfl⟩ : ∃ x, x = wr := ⟨_, rfl⟩
          by_cases hlt : j < q
          · have i3 : (j : Int) < (q : Int) := by omega
            obtain ⟨e, he⟩ : ∃ e, BB[j]? = some e := ⟨_, List.getElem?_eq_getElem (by rw [← HB.out.2.2.2.1]; exact hlt)⟩
            have htk : BB.take (j + 1) = BB.take j ++ [e] := by rw [List.take_add_one, he]; rfl
            have hnew : swapE e ∉ (BB.take j).map swapE := fun h => by
              rw [mem_map_swap, swapE_swap] at h
              have hn := HB.out.1.sublist (List.take_sublist (j + 1) BB)
              rw [htk] at hn
              exact (nodup_snoc.1 hn).2 h
            have hfe := HB.out.2.1 e (List.mem_of_getElem? he)
            obtain ⟨b0, o0, hA, hbb, g0, g1, g2, g3, g4, g5⟩ := (hO.sl encE_len (Nat.le_refl _)).ed4 he
            subst hA
            have hadd : addL ((BB.take j).map swapE) (swapE e) = (BB.take (j + 1)).map swapE := by rw [htk, List.map_append]; exact if_neg hnew
            obtain ⟨⟨x1, x2, x3⟩, x4, x5, x6⟩ := e
            dsimp only at g0 g1 g2 g3 g4 g5
            have hzT := hB.size
            have hmT := hM.lt
            have HT := hide (And.intro hM (And.intro hO (And.intro hB (And.intro hadd (And.intro hfe hcnt)))))
            clear hM hO hB hadd hfe htk hnew he hcnt
            go_upto_region 17 with fail
            clear g0 g1 g2 g3 g4 g5
            obtain ⟨eb, heb⟩ : ∃ g, g = T.heap.size := ⟨_, rfl⟩
            obtain ⟨Z, hZ⟩ : ∃ W, W = T.alloc (.cells #[.int .i64 x1, .int .i64 x2, .int .i64 x3, .int .i64 x4, .int .i64 x5, .int .i64 x6] 44) := ⟨_, rfl⟩
            rw [← hZ, ← heb]
            have hbe : Blk Z eb 44 #[.int .i64 x1, .int .i64 x2, .int .i64 x3, .int .i64 x4, .int .i64 x5, .int .i64 x6] := by rw [hZ, heb]; exact Blk.new _ _ _
            have hTZ : Below T.heap.size T Z := by rw [hZ]; exact (Below.refl _ T).alloc (Nat.le_refl _) _
            have hMZ := HT.out.1.below hTZ hmT
            have hOZ : Own encE 6 44 Z X.heap.size (.slice (some ⟨b0, o0, none⟩) q c3) q BB := by rw [hZ]; exact HT.out.2.1.alloc _
            have hBZ := HT.out.2.2.1.trans (hTZ.mono hzT)
            have g0 : Z.cell? ⟨eb, 0, none⟩ = _ := hbe.cell 0
            have g1 : Z.cell? ⟨eb, 1, none⟩ = _ := hbe.cell 1
            have g2 : Z.cell? ⟨eb, 2, none⟩ = _ := hbe.cell 2
            have g3 : Z.cell? ⟨eb, 3, none⟩ = _ := hbe.cell 3
            have g4 : Z.cell? ⟨eb, 4, none⟩ = _ := hbe.cell 4
            have g5 : Z.cell? ⟨eb, 5, none⟩ = _ := hbe.cell 5
            simp only [List.getElem?_toArray, List.getElem?_cons_zero, List.getElem?_cons_succ] at g0 g1 g2 g3 g4 g5
            have hlt2 := hbe.lt
            obtain ⟨w5, hrun, hm5, hg5, hz5⟩ := hMZ.update kfA4 (t := 43) (e := 4) Tryd.underlying43 (by have := HT.out.2.2.2.2.2; unfold maxLen; omega) (swapE ((x1, x2, x3), x4, x5, x6)) ⟨HT.out.2.2.2.2.1.2, HT.out.2.2.2.2.1.1⟩ (.bool true)
            rw [setK4_add, HT.out.2.2.2.1] at hm5
            have hO5 := hOZ.kept hg5 (.inr (fun h => by have h1 := (hOZ.blk mb h).1; have h2 := HX.out.2.2.1; omega))
            have hB5 := hBZ.grown hg5 hBZ.size (fun r hr => by have h1 : mb = r := Option.some.inj hr; have h2 := HX.out.2.2.2; omega)
            have H5 := hide (And.intro hm5 (And.intro hO5 hB5))
            dsimp only [swapE, vE] at hrun
            clear hm5 hg5 hz5 hO5 hB5 hMZ hOZ hBZ hTZ hbe hZ heb
            go_wp2
            go_roundw
            case rel => exact ⟨j + 1, cnt + 1, by omega, by go_num, by have := HT.out.2.2.2.2.2; omega, H5.out.1, H5.out.2.1, H5.out.2.2⟩
            case measure => (simp [intOf]; try omega)
          · obtain rfl : j = q := by omega
            have i3 : ¬ (j : Int) < (j : Int) := by omega
            rw [List.take_of_length_le (by rw [← HB.out.2.2.2.1]; exact Nat.le_refl _)] at hM
            have H5 := hide (And.intro hM (And.intro hB hM.lt))
            clear hM hO hB
            go_wp2_with (go_at_call 14; refine (HK.out.2.1 T H5.out.2.1).mono ?_; rintro e W4 ⟨v, rfl, ho, hB⟩; obtain ⟨A4, c4, rfl⟩ := ho.form; have h1 := H5.out.2.1.trans (hB.mono H5.out.2.1.size); have h2 := H5.out.1.below hB H5.out.2.2; have h3 := ho.sl encE_len (Nat.le_refl _); have H6 := hide (And.intro h3 (And.intro h1 h2)); clear ho h1 h2 h3 hB)
            obtain ⟨G, rfl⟩ : ∃ x, x = W4 := ⟨_, rfl⟩
            go_loopw [74] (fun iv wr => ∃ i : Nat, i ≤ j ∧ iv = .int .i64 i ∧ Below G.heap.size G wr) (fun iv _ => j - (intOf iv).toNat)
            case atStart => exact ⟨0, by omega, rfl, Below.refl _ G⟩
            case round =>
              obtain ⟨i, hi, rfl, hB⟩ := hrel
              obtain ⟨T2, rfl⟩ : ∃ x, x = wr := ⟨_, rfl⟩
              by_cases hlt : i < j
              · have i4 : (i : Int) < (j : Int) := by omega
                obtain ⟨e, he⟩ : ∃ e, BA[i]? = some e := ⟨_, List.getElem?_eq_getElem (by rw [← HB.out.2.2.2.2.1]; exact hlt)⟩
                have hin : e ∈ BB.map swapE := mem_map_swap.2 ((HB.out.2.2.2.2.2 e).1 (List.mem_of_getElem? he))
                have hfe := HB.out.2.2.1 e (List.mem_of_getElem? he)
                obtain ⟨b0, o0, hA, hbb, g0, g1, g2, g3, g4, g5⟩ := (H6.out.1.below hB).ed4 he
                subst hA
                have hzT := hB.size
                have hmT : mb < G.heap.size := H6.out.2.2.lt
                have HT := hide (And.intro hB (And.intro hin hfe))
                clear hB hin hfe he
                go_upto_region 23 with fail
                clear g0 g1 g2 g3 g4 g5
                obtain ⟨eb, heb⟩ : ∃ g, g = T2.heap.size := ⟨_, rfl⟩
                obtain ⟨Z, hZ⟩ : ∃ W, W = T2.alloc (.cells (cE e) 44) := ⟨_, rfl⟩
                rw [← hZ, ← heb]
                have hbe : Blk Z eb 44 (cE e) := by rw [hZ, heb]; exact Blk.new _ _ _
                have hTZ : Below T2.heap.size T2 Z := by rw [hZ]; exact (Below.refl _ T2).alloc (Nat.le_refl _) _
                have hBZ := HT.out.1.trans (hTZ.mono hzT)
                have hMZ := H6.out.2.2.below hBZ hmT
                have hl := hMZ.lookup kfA4 (t := 43) (e := 4) Tryd.underlying43 (z := .bool false) rfl e HT.out.2.2
                rw [setK4_get, memB_on HT.out.2.1] at hl
                obtain ⟨a0, a1, a2, a3, a4, a5⟩ := hbe.six4
                have hlt2 := hbe.lt
                have H7 := hide hBZ
                clear hBZ hMZ hTZ hbe hZ heb
                go_wp2
                go_roundw
                case rel => exact ⟨i + 1, by omega, by go_num, H7.out⟩
                case measure => (simp [intOf]; try omega)
              · obtain rfl : i = j := by omega
                have i4 : ¬ (i : Int) < (i : Int) := by omega
                have hmT : mb < G.heap.size := H6.out.2.2.lt
                have hM2 := H6.out.2.2.below hB hmT
                have hB2 := H6.out.2.1.trans (hB.mono H6.out.2.1.size)
                have H7 := hide (And.intro hM2 (And.intro hB2 hM2.lt))
                clear hM2 hB2 hB hmT
                have hlen : ∀ W cnt, SetAM W mb cnt (BB.map swapE) → (Builtin.len_ #[43] 3 #[.map (some mb)]).run Tryd.prog W = .ok (.int .i64 i) W := fun W cnt hM => by
                  have h := lenA4 hM (nodup_map_swap.2 HB.out.1) (fun p hp => by
                    have := HB.out.2.1 _ (mem_map_swap.1 hp)
                    exact ⟨this.2, this.1⟩)
                  rw [List.length_map, ← HB.out.2.2.2.1] at h
                  exact h
                have HLn := hide hlen
                clear hlen
                go_wp2_with (first
                  | (go_at_call 15; refine (HK.out.2.2.2 W5 H8.out.2.1).mono ?_; rintro e W6 ⟨rfl, hB⟩; have h1 := H8.out.2.1.trans (hB.mono H8.out.2.1.size); have h2 := H8.out.1.below hB H8.out.2.2; have hln := HLn.out W6 _ h2; have H9 := hide h1; clear h1 h2 hB)
                  | (go_at_call 15; refine (HK.out.2.2.1 T2 H7.out.2.1).mono ?_; rintro e W5 ⟨rfl, hB⟩; have h1 := H7.out.2.1.trans (hB.mono H7.out.2.1.size); have h2 := H7.out.1.below hB H7.out.2.2; have H8 := hide (And.intro h2 (And.intro h1 h2.lt)); clear h1 h2 hB))
                go_ret
                exact ⟨rfl, HZ.out.trans (H9.out.mono HZ.out.size)⟩
  · have e1 : (E != 0) = true := by simp [hE0]
    have e2 : (E == 0) = false := by simp [hE0]
    have HE0 := hide hE0
    clear hE0 hE
    go_wp2_with (go_at_call 10; refine K1.out.mono ?_; rintro e Y1 ⟨rfl, hB⟩; have h2 := H2.out.1.trans (hB.mono H2.out.1.size); have H3 := hide h2; clear h2 hB)
    go_ret
    exact ⟨rfl, H3.out⟩
end Go.Proofs.YtelfnmohpjkilaaDoor
