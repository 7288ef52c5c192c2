/- law04.MeshSolids (printed by mk_SolW.py). -/
import Derived.Test.YtelfnmohpjkilaaDoorCB20
import Derived.Test.YtelfnmohpjkilaaDoorCB23
import Derived.Test.YtelfnmohpjkilaaDoorCB25
import Derived.Test.YtelfnmohpjkilaaDoorCVox
import Derived.Test.YtelfnmohpjkilaaDoorCVoxE
import Derived.Test.YtelfnmohpjkilaaDoorCWnD
import Derived.Test.YtelfnmohpjkilaaDoorCWdG
namespace Go.Proofs.YtelfnmohpjkilaaDoor
open Go.RowKit Go.Sort
theorem vol6_L (l : List Tri) : vol6 l = volL l := by
  induction l with
  | nil => rfl
  | cons t l ih => rw [vol6, volL, ih]; rfl
theorem sumV_bd (b : Nat → Bool) : ∀ k, 0 ≤ sumV (fun n => bI (b n)) k ∧ sumV (fun n => bI (b n)) k ≤ k
  | 0 => by simp [sumV]
  | k + 1 => by
    have ih := sumV_bd b k
    rw [sumV]
    have : 0 ≤ bI (b k) ∧ bI (b k) ≤ 1 := by unfold bI; split <;> omega
    omega
theorem wideN_size {b : Bool} {s : ByteArray} {x : Int} (h : WideN (.agg #[.bool b, .string s]) x) (hx : x.natAbs < 256 ^ 100) : s.size ≤ maxLen := by
  obtain ⟨neg, l, e, _, tl, hl, _⟩ := h
  simp [nvalV] at e
  obtain ⟨_, rfl⟩ := e
  rw [hl, intG_abs] at hx
  have := g_len tl hx
  rw [strL_size, List.length_reverse]
  unfold maxLen
  omega
theorem small_q {x : Int} (h : x.natAbs ≤ 1296) : x.natAbs < 256 ^ 100 := Nat.lt_of_le_of_lt h (by decide)
theorem vox_fits {b : Nat → Bool} {o : Pt} {s : Int} (hr : voxR o s) : ∀ t ∈ voxP b o s, fitsT t := by
  intro t ht
  obtain ⟨n, f, hn, _, _, _, hs⟩ := mem_vox ht
  obtain ⟨i, j, l, hi, hj, hl, rfl⟩ := mem_side hs
  obtain ⟨h0, h1, h2, h3⟩ := hr
  have key : ∀ m, m < 8 → fitsP (cor8 (voxC o s n) s m) := fun m hm => by
    have := vox_range (B := 4398046511104) h0.1 (o := o) (by omega) (by omega) (by omega) hn hm
    unfold fitsP fits
    omega
  exact ⟨key _ hi, key _ hj, key _ hl⟩
theorem tmod40 (x : Int) : -1099511627776 < x.tmod 1099511627776 ∧ x.tmod 1099511627776 < 1099511627776 := by
  have h1 := Int.tmod_lt_of_pos x (show (0 : Int) < 1099511627776 by omega)
  have h2 := Int.tmod_lt_of_pos (-x) (show (0 : Int) < 1099511627776 by omega)
  rw [Int.neg_tmod] at h2
  omega
set_option maxRecDepth 100000 in
set_option maxHeartbeats 64000000 in
theorem solids_of (hsan : ∀ W : World, Calls Tryd.prog 6 #[] W fun e w' => e = .returned (.bool true) ∧ Below W.heap.size W w') (n0 : Nat) (p : Pt) (w : World) (_hn0 : n0 < 4294967296) (_hp : fitsP p) :
    Calls Tryd.prog 4 #[.int .u32 n0, vP p] w fun e w' => e = .returned (.bool true) ∧ Below w.heap.size w w' := by
  obtain ⟨p1, p2, p3⟩ := p
  obtain ⟨b, hb⟩ : ∃ b, b = n0 % 134217728 := ⟨_, rfl⟩
  have hb27 : b < 134217728 := by omega
  have ha := and_27 n0
  rw [← hb] at ha
  obtain ⟨o1, ho1⟩ : ∃ q, q = p1.tmod 1099511627776 := ⟨_, rfl⟩
  obtain ⟨o2, ho2⟩ : ∃ q, q = p2.tmod 1099511627776 := ⟨_, rfl⟩
  obtain ⟨o3, ho3⟩ : ∃ q, q = p3.tmod 1099511627776 := ⟨_, rfl⟩
  have d1 := tmod40 p1
  have d2 := tmod40 p2
  have d3 := tmod40 p3
  rw [← ho1] at d1
  rw [← ho2] at d2
  rw [← ho3] at d3
  have t1 : p1.tmod 1099511627776 = o1 := ho1.symm
  have t2 : p2.tmod 1099511627776 = o2 := ho2.symm
  have t3 : p3.tmod 1099511627776 = o3 := ho3.symm
  have hr : voxR (o1, o2, o3) 2 := by unfold voxR; dsimp only; omega
  obtain ⟨L, hL⟩ : ∃ L, L = voxP b.testBit (o1, o2, o3) 2 := ⟨_, rfl⟩
  obtain ⟨B, hB⟩ : ∃ B, B = b.testBit := ⟨_, rfl⟩
  have hvx := fun W => voxels_any b hb27 2 (o1, o2, o3) W hr
  simp only [← hL] at hvx
  rw [← hB] at hL
  have hfit : ∀ t ∈ L, fitsT t := by rw [hL]; exact vox_fits hr
  have hlen : L.length ≤ 324 := by rw [hL]; exact voxP_le _ _ _
  have hck : checkP L false = 0 ∨ checkP L false = 21 ∨ checkP L false = 23 := by rw [hL]; exact vox_check _ _ (by omega)
  have hbd : borderP L = [] := by rw [hL]; exact vox_border _ _ _
  obtain ⟨m, hm⟩ : ∃ m, m = sumV (fun n => bI (B n)) 27 := ⟨_, rfl⟩
  have hmb := sumV_bd B 27
  rw [← hm] at hmb
  have hvol : vol6 L = 48 * m := by rw [vol6_L, hL, vox_vol, hm]; omega
  have hfl : vol6 (L.map flipT4) = -48 * m := by rw [vol6_L, volL_flip, ← vol6_L, hvol]; omega
  have hcf := check_flip L false
  have hef := euler_flip L
  have hffit : ∀ t ∈ L.map flipT4, fitsT t := fun t ht => by
    obtain ⟨u, hu, rfl⟩ := List.mem_map.1 ht
    have := hfit u hu
    exact ⟨this.2.1, this.1, this.2.2⟩
  have HS := hide hsan
  have HV := hide hvx
  have HB := hide hB
  have HL := hide (And.intro hfit (And.intro hlen (And.intro hck (And.intro hbd (And.intro hm (And.intro hmb (And.intro hvol (And.intro hfl (And.intro hcf (And.intro hef hffit))))))))))
  clear hsan hvx hB hfit hlen hck hbd hm hmb hvol hfl hcf hef hffit hL hb ho1 ho2 ho3 hr
  go_enter Tryd.func4, Tryd.ntmps4
  go_upto_region 1 with fail
  obtain ⟨X0, hX0⟩ : ∃ X, X = w.alloc (.cells #[.int .i64 p1, .int .i64 p2, .int .i64 p3] 23) := ⟨_, rfl⟩
  obtain ⟨pb, hpb⟩ : ∃ g, g = w.heap.size := ⟨_, rfl⟩
  rw [← hX0, ← hpb]
  have h1 : Blk X0 pb 23 #[.int .i64 p1, .int .i64 p2, .int .i64 p3] := by rw [hX0, hpb]; exact Blk.new _ _ _
  have h2 : Below w.heap.size w X0 := by rw [hX0]; exact (Below.refl _ w).alloc (Nat.le_refl _) _
  have H0 := hide (And.intro h1 h2)
  clear h1 h2 hX0 hpb
  go_upto_region 2 with (go_at_call 6; refine (HS.out X0).mono ?_; rintro e X1 ⟨rfl, hB1⟩; have h1 := H0.out.1.below hB1 H0.out.1.lt; have h2 := H0.out.2.trans (hB1.mono H0.out.2.size); have H1 := hide (And.intro h1 h2); clear h1 h2 hB1)
  have g0 := H1.out.1.cell 0
  have g1 := H1.out.1.cell 1
  have g2 := H1.out.1.cell 2
  simp only [List.getElem?_toArray, List.getElem?_cons_zero, List.getElem?_cons_succ] at g0 g1 g2
  go_upto_region 4 with (go_at_call 9; refine (HV.out X1).mono ?_; rintro e Y ⟨v, rfl, ho, hB2⟩; obtain ⟨TA, tc, rfl⟩ := ho.form; have h2 := H1.out.2.trans (hB2.mono H1.out.2.size); have h3 := ho.sl encT_len (Nat.le_refl _); have H2 := hide (And.intro h2 h3); clear h2 h3 ho hB2)
  clear g0 g1 g2 H1 H0 t1 t2 t3 ha d1 d2 d3
  obtain ⟨N, hN⟩ : ∃ N, N = L.length := ⟨_, rfl⟩
  have hN4 : N ≤ 324 := by rw [hN]; exact HL.out.2.1
  rw [← hN]
  have HN := hide hN
  clear hN
  go_wp2_with fail
  go_loopw [8, 30] (fun mv kv wr => ∃ k : Nat, k ≤ 27 ∧ kv = .int .i64 k ∧ mv = .int .i64 (sumV (fun n => bI (B n)) k) ∧ wr = Y) (fun _ kv _ => 27 - (intOf kv).toNat)
  case atStart => exact ⟨0, by omega, rfl, rfl, rfl⟩
  case round =>
    obtain ⟨k, hk, rfl, rfl, hw⟩ := hrel
    obtain rfl : Y = wr := hw.symm
    by_cases hlt : k < 27
    · have i1 : (k : Int) < 27 := by omega
      have hsb := sumV_bd B k
      have hsc : sumV (fun n => bI (B n)) (k + 1) = sumV (fun n => bI (B n)) k + bI (B k) := rfl
      obtain ⟨q, hq⟩ : ∃ q, q = sumV (fun n => bI (B n)) k := ⟨_, rfl⟩
      rw [← hq] at hsb hsc ⊢
      have hbit : bits .and .i64 ((b : Int) / 2 ^ k) 1 = bI (B k) := by rw [HB.out]; unfold bI; exact bit_and b k
      obtain ⟨d, hd⟩ : ∃ d, d = bI (B k) := ⟨_, rfl⟩
      have hd2 : 0 ≤ d ∧ d ≤ 1 := by rw [hd]; unfold bI; split <;> omega
      rw [← hd] at hbit hsc
      have HC := hide hsc
      clear hsc hq hd
      go_wp2
      go_roundw
      case rel => exact ⟨k + 1, by omega, by go_num, by rw [HC.out], by trivial⟩
      case measure => (simp [intOf]; try omega)
    · obtain rfl : k = 27 := by omega
      have i1 : ¬ ((27 : Nat) : Int) < 27 := by omega
      have hmm := HL.out.2.2.2.2.1
      rw [← hmm]
      clear hmm
      go_wp2_with fail
      go_loopw [10, 42] (fun tv iv wr => ∃ k : Nat, k ≤ N ∧ iv = .int .i64 k ∧ Own encT 9 26 wr Y.heap.size tv k ((L.take k).map flipT4) ∧ Below Y.heap.size Y wr) (fun _ iv _ => N - (intOf iv).toNat)
      case atStart => exact ⟨0, by omega, rfl, Own.nil, Below.refl _ Y⟩
      case round =>
        obtain ⟨k, hk, rfl, hown, hB⟩ := hrel
        obtain ⟨V, rfl⟩ : ∃ x, x = wr := ⟨_, rfl⟩
        by_cases hlt : k < N
        · have i2 : (k : Int) < (N : Int) := by omega
          obtain ⟨t, ht⟩ : ∃ t, L[k]? = some t := ⟨_, List.getElem?_eq_getElem (by rw [← HN.out]; exact hlt)⟩
          have hnx : (L.take (k + 1)).map flipT4 = (L.take k).map flipT4 ++ [flipT4 t] := by rw [List.take_add_one, ht, Option.toList_some, List.map_append]; rfl
          obtain ⟨b0, o0, hA, hbb, g0, g1, g2, g3, g4, g5, g6, g7, g8⟩ := (H2.out.2.below hB).tri ht
          subst hA
          obtain ⟨⟨x1, x2, x3⟩, ⟨x4, x5, x6⟩, x7, x8, x9⟩ := t
          dsimp only at g0 g1 g2 g3 g4 g5 g6 g7 g8
          have hzV := hB.size
          have HK := hide (And.intro hown (And.intro hB hnx))
          clear hown hB hnx ht
          go_wp2_with (at_builtin; refine wpList_append1 rfl _ _ _ rfl Tryd.underlying27 infoT rfl (by omega) encT_len encT_one rfl ((HK.out.1.alloc _).alloc _) (V.heap.size + 1) 1 (flipT4 ((x1, x2, x3), (x4, x5, x6), x7, x8, x9)) rfl (Blk.new' _ _ _ _ (by simp)) (by unfold maxLen; omega) (by omega) (by simp; omega) ?_; intro g cap w5 hown5 hg5 hB5 hat5 hgb5 hlt5; have H5 := hide (And.intro hown5 (((HK.out.2.1.alloc hzV _).alloc (by simp; omega) _).trans hB5)); clear hown5 hg5 hB5 hat5 hgb5 hlt5)
          go_roundw
          case rel => exact ⟨k + 1, by omega, by go_num, by rw [HK.out.2.2]; exact H5.out.1, H5.out.2⟩
          case measure => (simp [intOf]; try omega)
        · obtain rfl : k = N := by omega
          have i2 : ¬ (k : Int) < (k : Int) := by omega
          have hF : (L.take k).map flipT4 = L.map flipT4 := by rw [List.take_of_length_le (by rw [← HN.out]; omega)]
          rw [hF] at hown
          obtain ⟨FA, fc, rfl⟩ := hown.form
          obtain ⟨F, hFd⟩ : ∃ F, F = L.map flipT4 := ⟨_, rfl⟩
          rw [← hFd] at hown
          have hFl : k = F.length := hown.1
          have hsT : Sl encT 9 V V.heap.size TA L := (H2.out.2.below hB).more hB.size
          have hsF : Sl encT 9 V V.heap.size FA F := hown.sl encT_len (Nat.le_refl _)
          obtain ⟨E, hE⟩ : ∃ E, E = checkP L false := ⟨_, rfl⟩
          obtain ⟨U, hU⟩ : ∃ E, E = eulerP L := ⟨_, rfl⟩
          have k1 : ∀ W, Below V.heap.size V W → Calls Tryd.prog 10 #[.slice TA k tc] W fun e w' => e = .returned (.int .i64 E) ∧ Below W.heap.size W w' := fun W h => by
            have := Check4_any TA tc L W ((hsT.below h).more h.size) (by have := HL.out.2.1; omega) HL.out.1
            rw [← HN.out, ← hE] at this; exact this
          have k2 : ∀ W, Below V.heap.size V W → Calls Tryd.prog 11 #[.slice TA k tc] W fun e w' => ∃ v, e = .returned v ∧ WideN v (48 * m) ∧ Below W.heap.size W w' := fun W h => by
            have := volume4_any TA tc L W ((hsT.below h).more h.size) (by have := HL.out.2.1; omega) HL.out.1
            rw [← HN.out, HL.out.2.2.2.2.2.2.1] at this; exact this
          have k3 : ∀ W, Below V.heap.size V W → Calls Tryd.prog 11 #[.slice FA k fc] W fun e w' => ∃ v, e = .returned v ∧ WideN v (-48 * m) ∧ Below W.heap.size W w' := fun W h => by
            have := volume4_any FA fc F W ((hsF.below h).more h.size) (by have := HL.out.2.1; omega) (by rw [hFd]; exact HL.out.2.2.2.2.2.2.2.2.2.2)
            rw [← hFl, hFd, HL.out.2.2.2.2.2.2.2.1] at this; exact this
          have k4 : ∀ W, Below V.heap.size V W → Calls Tryd.prog 10 #[.slice FA k fc] W fun e w' => e = .returned (.int .i64 E) ∧ Below W.heap.size W w' := fun W h => by
            have := Check4_any FA fc F W ((hsF.below h).more h.size) (by have := HL.out.2.1; omega) (by rw [hFd]; exact HL.out.2.2.2.2.2.2.2.2.2.2)
            rw [← hFl, hFd, HL.out.2.2.2.2.2.2.2.2.1, ← hE] at this; exact this
          have k5 : ∀ W, Below V.heap.size V W → Calls Tryd.prog 13 #[.slice FA k fc] W fun e w' => e = .returned (.int .i64 U) ∧ Below W.heap.size W w' := fun W h => by
            have := euler4_any FA fc F W ((hsF.below h).more h.size) (by have := HL.out.2.1; omega) (by rw [hFd]; exact HL.out.2.2.2.2.2.2.2.2.2.2)
            rw [← hFl, hFd, HL.out.2.2.2.2.2.2.2.2.2.1, ← hU] at this; exact this
          have k6 : ∀ W, Below V.heap.size V W → Calls Tryd.prog 13 #[.slice TA k tc] W fun e w' => e = .returned (.int .i64 U) ∧ Below W.heap.size W w' := fun W h => by
            have := euler4_any TA tc L W ((hsT.below h).more h.size) (by have := HL.out.2.1; omega) HL.out.1
            rw [← HN.out, ← hU] at this; exact this
          have k7 : ∀ W, Below V.heap.size V W → Calls Tryd.prog 14 #[.slice TA k tc] W fun e w' => ∃ A c, e = .returned (.slice A 0 c) ∧ Below W.heap.size W w' := fun W h => by
            have := Border4_any TA tc L W ((hsT.below h).more h.size) (by have := HL.out.2.1; omega) HL.out.1
            rw [← HN.out, HL.out.2.2.2.1] at this
            refine Calls.mono this ?_
            rintro e w' ⟨v, rfl, ho, hB'⟩
            obtain ⟨A, c, rfl⟩ := ho.form
            exact ⟨A, c, rfl, hB'⟩
          have hEc : E = 0 ∨ E = 21 ∨ E = 23 := by rw [hE]; exact HL.out.2.2.1
          have hmb : 0 ≤ m ∧ m ≤ 27 := by have := HL.out.2.2.2.2.2.1; omega
          obtain ⟨q1, hq1⟩ : ∃ q, q = 48 * m := ⟨_, rfl⟩
          obtain ⟨q2, hq2⟩ : ∃ q, q = -48 * m := ⟨_, rfl⟩
          rw [← hq1] at k2
          rw [← hq2] at k3
          have bq1 : 0 ≤ q1 ∧ q1 ≤ 1296 := by omega
          have bq2 : -1296 ≤ q2 ∧ q2 ≤ 0 := by omega
          have k8 : ∀ W, Calls Tryd.prog 12 #[.int .i64 q1] W fun e w' => ∃ b s, e = .returned (.agg #[.bool b, .string s]) ∧ WideN (.agg #[.bool b, .string s]) q1 ∧ Below W.heap.size W w' := fun W => by
            refine Calls.mono (fromI_any q1 (by omega) (by omega) W) ?_
            rintro e w' ⟨b, s, rfl, hv, hB'⟩
            exact ⟨b, s, rfl, hv.toN, hB'⟩
          have k9 : ∀ W, Calls Tryd.prog 12 #[.int .i64 q2] W fun e w' => ∃ b s, e = .returned (.agg #[.bool b, .string s]) ∧ WideN (.agg #[.bool b, .string s]) q2 ∧ Below W.heap.size W w' := fun W => by
            refine Calls.mono (fromI_any q2 (by omega) (by omega) W) ?_
            rintro e w' ⟨b, s, rfl, hv, hB'⟩
            exact ⟨b, s, rfl, hv.toN, hB'⟩
          have e1 : 48 * m = q1 := hq1.symm
          have e2 : -48 * m = q2 := hq2.symm
          have e3 : -q1 = q2 := by omega
          have K := hide (And.intro k1 (And.intro k2 (And.intro k3 (And.intro k4 (And.intro k5 (And.intro k6 (And.intro k7 (And.intro k8 k9))))))))
          have HZ := hide (And.intro (H2.out.1.trans (hB.mono H2.out.1.size)) hEc)
          have HM := hide hmb
          clear k1 k2 k3 k4 k5 k6 k7 k8 k9 hEc hE hU hsT hsF hown hB hF hFd hFl hq1 hq2 hmb
          go_upto_region 17 with (go_at_call 10; refine (K.out.1 V (Below.refl _ V)).mono ?_; rintro e W0 ⟨rfl, hB⟩; have J0 := hide hB; clear hB)
          rcases HZ.out.2 with rfl | rfl | rfl
          · go_wp2_with (first | (go_at_call 14; refine (K.out.2.2.2.2.2.2.1 W7 J7.out).mono ?_; rintro e W8 ⟨A8, c8, rfl, hB⟩; have J8 := hide (J7.out.trans (hB.mono J7.out.size)); clear hB) | (go_at_call 13; refine (K.out.2.2.2.2.2.1 W6 J6.out).mono ?_; rintro e W7 ⟨rfl, hB⟩; have J7 := hide (J6.out.trans (hB.mono J6.out.size)); clear hB) | (go_at_call 13; refine (K.out.2.2.2.2.1 W5 J5.out).mono ?_; rintro e W6 ⟨rfl, hB⟩; have J6 := hide (J5.out.trans (hB.mono J5.out.size)); clear hB) | (go_at_call 10; refine (K.out.2.2.2.1 W4 J4.out).mono ?_; rintro e W5 ⟨rfl, hB⟩; have J5 := hide (J4.out.trans (hB.mono J4.out.size)); clear hB z4) | (have hj := J3.out; go_at_call 12; refine (K.out.2.2.2.2.2.2.2.2 W3).mono ?_; rintro e W4 ⟨b4, s4, rfl, hv4, hB⟩; have hu := J3.out.2.uniq hv4; subst hu; have J4 := hide (J3.out.1.trans (hB.mono J3.out.1.size)); have z4 := fun W => eqWd b4 s4 (wideN_size hv4 (small_q (by omega))) W; clear hj hB hv4) | (go_at_call 11; refine (K.out.2.2.1 W2 J2.out).mono ?_; rintro e W3 ⟨v3, rfl, hv3, hB⟩; have J3 := hide (And.intro (J2.out.trans (hB.mono J2.out.size)) hv3); clear hB hv3 z2) | (have hj := J1.out; go_at_call 12; refine (K.out.2.2.2.2.2.2.2.1 W1).mono ?_; rintro e W2 ⟨b2, s2, rfl, hv2, hB⟩; have hu := J1.out.2.uniq hv2; subst hu; have J2 := hide (J1.out.1.trans (hB.mono J1.out.1.size)); have z2 := fun W => eqWd b2 s2 (wideN_size hv2 (small_q (by omega))) W; clear hj hB hv2) | (go_at_call 11; refine (K.out.2.1 W0 J0.out).mono ?_; rintro e W1 ⟨v1, rfl, hv1, hB⟩; have J1 := hide (And.intro (J0.out.trans (hB.mono J0.out.size)) hv1); clear hB hv1))
            go_ret
            exact ⟨rfl, HZ.out.1.trans (J8.out.mono HZ.out.1.size)⟩
          · go_wp2_with (first | (go_at_call 14; refine (K.out.2.2.2.2.2.2.1 W7 J7.out).mono ?_; rintro e W8 ⟨A8, c8, rfl, hB⟩; have J8 := hide (J7.out.trans (hB.mono J7.out.size)); clear hB) | (go_at_call 13; refine (K.out.2.2.2.2.2.1 W6 J6.out).mono ?_; rintro e W7 ⟨rfl, hB⟩; have J7 := hide (J6.out.trans (hB.mono J6.out.size)); clear hB) | (go_at_call 13; refine (K.out.2.2.2.2.1 W5 J5.out).mono ?_; rintro e W6 ⟨rfl, hB⟩; have J6 := hide (J5.out.trans (hB.mono J5.out.size)); clear hB) | (go_at_call 10; refine (K.out.2.2.2.1 W4 J4.out).mono ?_; rintro e W5 ⟨rfl, hB⟩; have J5 := hide (J4.out.trans (hB.mono J4.out.size)); clear hB z4) | (have hj := J3.out; go_at_call 12; refine (K.out.2.2.2.2.2.2.2.2 W3).mono ?_; rintro e W4 ⟨b4, s4, rfl, hv4, hB⟩; have hu := J3.out.2.uniq hv4; subst hu; have J4 := hide (J3.out.1.trans (hB.mono J3.out.1.size)); have z4 := fun W => eqWd b4 s4 (wideN_size hv4 (small_q (by omega))) W; clear hj hB hv4) | (go_at_call 11; refine (K.out.2.2.1 W2 J2.out).mono ?_; rintro e W3 ⟨v3, rfl, hv3, hB⟩; have J3 := hide (And.intro (J2.out.trans (hB.mono J2.out.size)) hv3); clear hB hv3 z2) | (have hj := J1.out; go_at_call 12; refine (K.out.2.2.2.2.2.2.2.1 W1).mono ?_; rintro e W2 ⟨b2, s2, rfl, hv2, hB⟩; have hu := J1.out.2.uniq hv2; subst hu; have J2 := hide (J1.out.1.trans (hB.mono J1.out.1.size)); have z2 := fun W => eqWd b2 s2 (wideN_size hv2 (small_q (by omega))) W; clear hj hB hv2) | (go_at_call 11; refine (K.out.2.1 W0 J0.out).mono ?_; rintro e W1 ⟨v1, rfl, hv1, hB⟩; have J1 := hide (And.intro (J0.out.trans (hB.mono J0.out.size)) hv1); clear hB hv1))
            go_ret
            exact ⟨rfl, HZ.out.1.trans (J8.out.mono HZ.out.1.size)⟩
          · go_wp2_with (first | (go_at_call 14; refine (K.out.2.2.2.2.2.2.1 W7 J7.out).mono ?_; rintro e W8 ⟨A8, c8, rfl, hB⟩; have J8 := hide (J7.out.trans (hB.mono J7.out.size)); clear hB) | (go_at_call 13; refine (K.out.2.2.2.2.2.1 W6 J6.out).mono ?_; rintro e W7 ⟨rfl, hB⟩; have J7 := hide (J6.out.trans (hB.mono J6.out.size)); clear hB) | (go_at_call 13; refine (K.out.2.2.2.2.1 W5 J5.out).mono ?_; rintro e W6 ⟨rfl, hB⟩; have J6 := hide (J5.out.trans (hB.mono J5.out.size)); clear hB) | (go_at_call 10; refine (K.out.2.2.2.1 W4 J4.out).mono ?_; rintro e W5 ⟨rfl, hB⟩; have J5 := hide (J4.out.trans (hB.mono J4.out.size)); clear hB z4) | (have hj := J3.out; go_at_call 12; refine (K.out.2.2.2.2.2.2.2.2 W3).mono ?_; rintro e W4 ⟨b4, s4, rfl, hv4, hB⟩; have hu := J3.out.2.uniq hv4; subst hu; have J4 := hide (J3.out.1.trans (hB.mono J3.out.1.size)); have z4 := fun W => eqWd b4 s4 (wideN_size hv4 (small_q (by omega))) W; clear hj hB hv4) | (go_at_call 11; refine (K.out.2.2.1 W2 J2.out).mono ?_; rintro e W3 ⟨v3, rfl, hv3, hB⟩; have J3 := hide (And.intro (J2.out.trans (hB.mono J2.out.size)) hv3); clear hB hv3 z2) | (have hj := J1.out; go_at_call 12; refine (K.out.2.2.2.2.2.2.2.1 W1).mono ?_; rintro e W2 ⟨b2, s2, rfl, hv2, hB⟩; have hu := J1.out.2.uniq hv2; subst hu; have J2 := hide (J1.out.1.trans (hB.mono J1.out.1.size)); have z2 := fun W => eqWd b2 s2 (wideN_size hv2 (small_q (by omega))) W; clear hj hB hv2) | (go_at_call 11; refine (K.out.2.1 W0 J0.out).mono ?_; rintro e W1 ⟨v1, rfl, hv1, hB⟩; have J1 := hide (And.intro (J0.out.trans (hB.mono J0.out.size)) hv1); clear hB hv1))
            go_ret
            exact ⟨rfl, HZ.out.1.trans (J8.out.mono HZ.out.1.size)⟩
end Go.Proofs.YtelfnmohpjkilaaDoor
