/- ref08.Crossings (printed by mk_CrsW.py). -/
import Derived.StillTailTactics
import Derived.Deep.DeepCutAuto
import Derived.Deep.QuietTactic
import Derived.BigQuiet
import Derived.Test.YtfljcgehhnmamaaCB8
import Derived.Test.YtfljcgehhnmamaaCB29
import Derived.Test.YtfljcgehhnmamaaCCrsP
namespace Go.Proofs.Ytfljcgehhnmamaa
open Go.RowKit Go.Sort
set_option maxRecDepth 100000 in
set_option maxHeartbeats 32000000 in
theorem crossings_any (l : Nat) (h1 : 1 ≤ l) (h3 : l ≤ 3) (A : Option Addr) (c : Nat) (F : List Bool) (w : World) (hs : Sl encBl 1 w w.heap.size A F) (hF : F.length = (2 ^ l + 1) * (2 ^ l + 1) * (2 ^ l + 1)) :
    Calls Try.prog 22 #[.agg #[.int .i64 l, .slice A F.length c]] w fun e w' => ∃ v, e = .returned v ∧ Own encP 3 38 w' w.heap.size v (crsN F (2 ^ l) ((2 ^ (21 - l) : Nat) : Int) F.length).length (crsN F (2 ^ l) ((2 ^ (21 - l) : Nat) : Int) F.length) ∧ Below w.heap.size w w' := by
  obtain ⟨n, hn⟩ : ∃ n, n = 2 ^ l := ⟨_, rfl⟩
  obtain ⟨h, hh⟩ : ∃ h : Int, h = ((2 ^ (21 - l) : Nat) : Int) := ⟨_, rfl⟩
  obtain ⟨N, hN⟩ : ∃ N, N = F.length := ⟨_, rfl⟩
  rw [← hn] at hF ⊢
  rw [← hh, ← hN]
  rw [← hN] at hF
  have hn8 : n = 2 ∨ n = 4 ∨ n = 8 := by
    have hc : l = 1 ∨ l = 2 ∨ l = 3 := by omega
    rcases hc with rfl | rfl | rfl <;> simp [hn]
  have hS : SideH h := by rw [hh]; exact sideE h1 h3
  have hN729 : N ≤ 729 := by rw [hF]; rcases hn8 with rfl | rfl | rfl <;> decide
  obtain ⟨bA, oA, rfl, hbA, _⟩ := hs.at (encBl_get (F := F) (i := 0) (by rw [← hN, hF]; exact Nat.mul_pos (Nat.mul_pos (by omega) (by omega)) (by omega)))
  have hc3 : l = 1 ∨ l = 2 ∨ l = 3 := by omega
  have HS := hide (And.intro hs (And.intro hn (And.intro hh (And.intro hN (And.intro hF (And.intro hS hc3))))))
  clear hs hn hh hN hF hS hc3
  go_enter Try.func22, Try.ntmps22
  go_upto_region 1 with fail
  obtain ⟨X, hX⟩ : ∃ X, X = w.alloc (.cells #[.int .i64 l, .slice (some ⟨bA, oA, none⟩) N c] 26) := ⟨_, rfl⟩
  rw [← hX]
  have hBX : Below w.heap.size w X := by rw [hX]; exact (Below.refl _ w).alloc (Nat.le_refl _) _
  have hbX : Blk X w.heap.size 26 #[.int .i64 l, .slice (some ⟨bA, oA, none⟩) N c] := by rw [hX]; exact Blk.new _ _ _
  have hzX : X.heap.size = w.heap.size + 1 := by rw [hX]; simp
  have HX := hide (And.intro hBX (And.intro hbX ((HS.out.1.below hBX).more hBX.size)))
  have c0 : X.cell? ⟨w.heap.size, 0, none⟩ = some (.int .i64 l) := hbX.cell 0
  clear hBX hbX hX
  go_cut [3] (fun v wx => v = .int .i64 n ∧ wx = X)
  case first =>
    have hse := HS.out.2.1
    rcases HS.out.2.2.2.2.2.2 with rfl | rfl | rfl
    · go_wp2_with fail
      go_meet
      case rel => exact ⟨by rw [hse]; rfl, rfl⟩
    · go_wp2_with fail
      go_meet
      case rel => exact ⟨by rw [hse]; rfl, rfl⟩
    · go_wp2_with fail
      go_meet
      case rel => exact ⟨by rw [hse]; rfl, rfl⟩
  case rest =>
    obtain ⟨rfl, rfl⟩ := hcut
    obtain ⟨X, rfl⟩ : ∃ X, X = wc := ⟨_, rfl⟩
    go_upto_region 2 with fail
    go_cut [4] (fun v wx => v = .int .i64 h ∧ wx = X)
    case first =>
      have hse := HS.out.2.2.1
      rcases HS.out.2.2.2.2.2.2 with rfl | rfl | rfl
      · go_wp2_with fail
        go_meet
        case rel => exact ⟨by rw [hse]; rfl, rfl⟩
      · go_wp2_with fail
        go_meet
        case rel => exact ⟨by rw [hse]; rfl, rfl⟩
      · go_wp2_with fail
        go_meet
        case rel => exact ⟨by rw [hse]; rfl, rfl⟩
    case rest =>
      obtain ⟨rfl, rfl⟩ := hcut
      obtain ⟨X, rfl⟩ : ∃ X, X = wc := ⟨_, rfl⟩
      have hh2 : 0 < h ∧ h ≤ 1048576 := by rcases HS.out.2.2.2.2.2.1 with rfl | rfl | rfl <;> decide
      clear c0
      have hfact : ∀ W, Below X.heap.size X W → W.cell? ⟨w.heap.size, 0, none⟩ = some (.int .i64 l) ∧ W.cell? ⟨w.heap.size, 1, none⟩ = some (.slice (some ⟨bA, oA, none⟩) N c) ∧ ∀ j, j < N → W.cell? ⟨bA, oA + j, none⟩ = some (.bool (F.getD j false)) := fun W hW => by
        have hb := HX.out.2.1.below hW (by omega)
        refine ⟨hb.cell 0, hb.cell 1, fun j hj => ?_⟩
        obtain ⟨b', o', hbo, _, hcl⟩ := (HX.out.2.2.below hW).at (encBl_get (F := F) (i := j) (by rw [← HS.out.2.2.2.1]; exact hj))
        cases hbo
        have := hcl 0 _ rfl
        simp only [Nat.mul_one, Nat.add_zero] at this
        exact this
      have HFact := hide hfact
      clear hfact
      go_wp2_with fail
      go_loopw [5, 6] (fun v kv wr => ∃ k : Nat, k ≤ N ∧ kv = .int .i64 k ∧ Own encP 3 38 wr X.heap.size v (crsN F n h k).length (crsN F n h k) ∧ Below X.heap.size X wr) (fun _ kv _ => N - (intOf kv).toNat)
      case atStart => exact ⟨0, by omega, rfl, Own.nil, Below.refl _ X⟩
      case round =>
        obtain ⟨k, hk, rfl, hown, hB⟩ := hrel
        obtain ⟨V, rfl⟩ : ∃ V, V = wr := ⟨_, rfl⟩
        obtain ⟨A5, c5, rfl⟩ := hown.form
        have hzV := hB.size
        have hbV := HX.out.2.1.below hB (by omega)
        have f0 : V.cell? ⟨w.heap.size, 0, none⟩ = some (.int .i64 l) := hbV.cell 0
        have f1 : V.cell? ⟨w.heap.size, 1, none⟩ = some (.slice (some ⟨bA, oA, none⟩) N c) := hbV.cell 1
        obtain ⟨cl, hcl⟩ : ∃ cl, cl = (crsN F n h k).length := ⟨_, rfl⟩
        rw [← hcl] at hown ⊢
        have hcf := crsN_few F n h k
        rw [← hcl] at hcf
        have HO := hide (And.intro hown (And.intro hB hcl))
        clear hown hB hcl hbV
        by_cases hlt : k < N
        · have i1 : (k : Int) < (N : Int) := by omega
          have hs1 : ¬ ((n : Int) + 1) = 0 := by omega
          go_upto_region 10 with fail
          have hk3 : k < (n + 1) * (n + 1) * (n + 1) := by rw [← HS.out.2.2.2.2.1]; exact hlt
          have b1 := (three_of hk3).1
          have b2 := (three_of hk3).2.1
          have b3 := (three_of hk3).2.2.1
          have e1 : (k : Int) / ((n : Int) + 1) = ((k / (n + 1) : Nat) : Int) := rfl
          have e4 : (k : Int) % ((n : Int) + 1) = ((k % (n + 1) : Nat) : Int) := rfl
          have hu2 : k / (n + 1) ≤ k := Nat.div_le_self _ _
          have hu3 : k / (n + 1) / (n + 1) ≤ k / (n + 1) := Nat.div_le_self _ _
          have e2 : Int.tmod ((k / (n + 1) : Nat) : Int) ((n : Int) + 1) = ((k / (n + 1) % (n + 1) : Nat) : Int) := rfl
          have e3 : Int.tdiv ((k / (n + 1) : Nat) : Int) ((n : Int) + 1) = ((k / (n + 1) / (n + 1) : Nat) : Int) := rfl
          have w0 : ∀ q : Nat, q ≤ 729 → wrap64 (q : Int) = (q : Int) := fun q hq => by unfold wrap64; omega
          have w1 := w0 (k / (n + 1)) (Nat.le_trans hu2 (by omega))
          have w3 := w0 (k / (n + 1) / (n + 1)) (Nat.le_trans hu3 (Nat.le_trans hu2 (by omega)))
          rw [e1, e4, w1, e2, e3, w3]
          clear e1 e2 e3 e4 w0 w1 w3 hu2 hu3
          have hmid : ∀ a, midK n h k a = midG h (k % (n + 1)) (k / (n + 1) % (n + 1)) (k / (n + 1) / (n + 1)) a := fun a => rfl
          have hd0 : crsB F n k 0 = (decide (k % (n + 1) < n) && (F.getD k false != F.getD (farK n k 0) false)) := rfl
          have hd1 : crsB F n k 1 = (decide (k / (n + 1) % (n + 1) < n) && (F.getD k false != F.getD (farK n k 1) false)) := rfl
          have hd2 : crsB F n k 2 = (decide (k / (n + 1) / (n + 1) < n) && (F.getD k false != F.getD (farK n k 2) false)) := rfl
          have hf0 : farK n k 0 = (k / (n + 1) / (n + 1) * (n + 1) + k / (n + 1) % (n + 1)) * (n + 1) + (k % (n + 1) + 1) := rfl
          have hf1 : farK n k 1 = (k / (n + 1) / (n + 1) * (n + 1) + (k / (n + 1) % (n + 1) + 1)) * (n + 1) + k % (n + 1) := rfl
          have hf2 : farK n k 2 = ((k / (n + 1) / (n + 1) + 1) * (n + 1) + k / (n + 1) % (n + 1)) * (n + 1) + k % (n + 1) := rfl
          obtain ⟨x, hx⟩ : ∃ x, x = k % (n + 1) := ⟨_, rfl⟩
          obtain ⟨y, hy⟩ : ∃ y, y = k / (n + 1) % (n + 1) := ⟨_, rfl⟩
          obtain ⟨z, hz⟩ : ∃ z, z = k / (n + 1) / (n + 1) := ⟨_, rfl⟩
          rw [← hx, ← hy, ← hz]
          rw [← hx] at b1 hd0
          rw [← hy] at b2 hd1
          rw [← hz] at b3 hd2
          rw [← hx, ← hy, ← hz] at hf0 hf1 hf2
          simp only [← hx, ← hy, ← hz] at hmid
          clear hx hy hz hk3
          have hn2 : n = 2 ^ l := HS.out.2.1
          have hi0 : idxP l (x + 1) y z = farK n k 0 := by rw [hf0, hn2]; rfl
          have hi1 : idxP l x (y + 1) z = farK n k 1 := by rw [hf1, hn2]; rfl
          have hi2 : idxP l x y (z + 1) = farK n k 2 := by rw [hf2, hn2]; rfl
          have hl0 : x < n → farK n k 0 < N := fun hd => by rw [hf0, HS.out.2.2.2.2.1]; exact three_lt (by omega) (by omega) (by omega)
          have hl1 : y < n → farK n k 1 < N := fun hd => by rw [hf1, HS.out.2.2.2.2.1]; exact three_lt (by omega) (by omega) (by omega)
          have hl2 : z < n → farK n k 2 < N := fun hd => by rw [hf2, HS.out.2.2.2.2.1]; exact three_lt (by omega) (by omega) (by omega)
          have hn9 : n ≤ 8 := by omega
          have hix0 : ∀ W, Calls Try.prog 17 #[.int .i64 l, .int .i64 ((x : Int) + 1), .int .i64 (y : Int), .int .i64 (z : Int)] W fun e w' => e = .returned (.int .i64 (farK n k 0 : Nat)) ∧ w' = W := fun W => by
            have h := index_any l (x + 1) y z h1 h3 (by omega) (by omega) (by omega) W
            rw [hi0] at h; exact h
          have hix1 : ∀ W, Calls Try.prog 17 #[.int .i64 l, .int .i64 (x : Int), .int .i64 ((y : Int) + 1), .int .i64 (z : Int)] W fun e w' => e = .returned (.int .i64 (farK n k 1 : Nat)) ∧ w' = W := fun W => by
            have h := index_any l x (y + 1) z h1 h3 (by omega) (by omega) (by omega) W
            rw [hi1] at h; exact h
          have hix2 : ∀ W, Calls Try.prog 17 #[.int .i64 l, .int .i64 (x : Int), .int .i64 (y : Int), .int .i64 ((z : Int) + 1)] W fun e w' => e = .returned (.int .i64 (farK n k 2 : Nat)) ∧ w' = W := fun W => by
            have h := index_any l x y (z + 1) h1 h3 (by omega) (by omega) (by omega) W
            rw [hi2] at h; exact h
          have hpxb : ∀ q : Nat, q < n + 1 → 0 ≤ (q : Int) * h ∧ (q : Int) * h ≤ 8388608 := fun q hq => by
            refine ⟨Int.mul_nonneg (by omega) (by omega), ?_⟩
            have h1 := Int.mul_le_mul_of_nonneg_right (show (q : Int) ≤ 8 by omega) (show (0 : Int) ≤ h by omega)
            omega
          obtain ⟨px, hpx⟩ : ∃ px, px = (x : Int) * h := ⟨_, rfl⟩
          obtain ⟨py, hpy⟩ : ∃ px, px = (y : Int) * h := ⟨_, rfl⟩
          obtain ⟨pz, hpz⟩ : ∃ px, px = (z : Int) * h := ⟨_, rfl⟩
          have hxb := hpxb x b1
          have hyb := hpxb y b2
          have hzb := hpxb z b3
          rw [← hpx] at hxb
          rw [← hpy] at hyb
          rw [← hpz] at hzb
          have hm0 : midK n h k 0 = (px + h / 2, py, pz) := by rw [hmid, midG, ← hpx, ← hpy, ← hpz]; simp [axU]
          have hm1 : midK n h k 1 = (px, py + h / 2, pz) := by rw [hmid, midG, ← hpx, ← hpy, ← hpz]; simp [axU]
          have hm2 : midK n h k 2 = (px, py, pz + h / 2) := by rw [hmid, midG, ← hpx, ← hpy, ← hpz]; simp [axU]
          have HM := hide (And.intro hm0 (And.intro hm1 hm2))
          have HD := hide (And.intro hd0 (And.intro hd1 hd2))
          have HIx := hide (And.intro hix0 (And.intro hix1 hix2))
          have HLf := hide (And.intro hl0 (And.intro hl1 hl2))
          clear hm0 hm1 hm2 hd0 hd1 hd2 hix0 hix1 hix2 hl0 hl1 hl2 hf0 hf1 hf2 hi0 hi1 hi2 hmid hpxb hn2 f0 f1
          have gx : (x : Int) * h = px := hpx.symm
          have gy : (y : Int) * h = py := hpy.symm
          have gz : (z : Int) * h = pz := hpz.symm
          clear hpx hpy hpz
          go_upto_region 11 with fail
          clear gx gy gz
          obtain ⟨Y, hY⟩ : ∃ Y, Y = V.alloc (.cells #[.int .i64 px, .int .i64 py, .int .i64 pz] 38) := ⟨_, rfl⟩
          rw [← hY]
          have hSt : Own encP 3 38 Y X.heap.size (.slice A5 cl c5) cl (crsN F n h k) ∧ Blk Y V.heap.size 38 #[.int .i64 px, .int .i64 py, .int .i64 pz] ∧ (Value.slice A5 cl c5).ownBlock ≠ some V.heap.size ∧ Below X.heap.size X Y := by
            rw [hY]
            refine ⟨HO.out.1.alloc _, Blk.new _ _ _, fun e => ?_, HO.out.2.1.alloc hzV _⟩
            have := (HO.out.1.blk _ e).2
            omega
          have HSt := hide hSt
          clear hSt hY
          obtain ⟨L, hL⟩ : ∃ L, L = crsN F n h k := ⟨_, rfl⟩
          have HLL := hide hL
          rw [← hL] at HSt
          have hclL : cl = L.length := by rw [hL]; exact HO.out.2.2
          clear hL
          have hcf3 : cl ≤ 2187 := by omega
          clear hcf
          have Hcl0 := hide hclL
          clear hclL
          obtain ⟨cb, hcb⟩ : ∃ cb, cb = crsB F n k 0 := ⟨_, rfl⟩
          have HCb0 := hide hcb
          clear hcb
          go_cut [74] (fun v wx => v = .bool cb ∧ ∃ m, wx = Y.drewN m)
          case first =>
            obtain ⟨f0, f1, fF⟩ := HFact.out Y HSt.out.2.2.2
            by_cases hd : x < n
            · have hdI : (x : Int) < (n : Int) := by omega
              have hkf := HLf.out.1 hd
              obtain ⟨kf, hkfe⟩ : ∃ kf, kf = farK n k 0 := ⟨_, rfl⟩
              have hix := HIx.out.1
              rw [← hkfe] at hkf hix
              have hkfI : (kf : Int) < (N : Int) := by omega
              have s1 := fF k hlt
              have s2 := fF kf hkf
              obtain ⟨v1, hv1⟩ : ∃ v, v = F.getD k false := ⟨_, rfl⟩
              obtain ⟨v2, hv2⟩ : ∃ v, v = F.getD kf false := ⟨_, rfl⟩
              have hcbe : cb = (v1 != v2) := by rw [HCb0.out, HD.out.1, decide_eq_true hd, Bool.true_and, hv1, hv2, hkfe]
              rw [← hv1] at s1
              rw [← hv2] at s2
              have sx : IntKind.i64.wrap ((x : Int) + 1) = (x : Int) + 1 := IntWalk.i64_in _ (by omega)
              have hixq : ∀ W, Calls Try.prog 17 #[.int .i64 l, .int .i64 ((x : Int) + 1), .int .i64 (y : Int), .int .i64 (z : Int)] W fun e w' => e = .returned (.int .i64 (kf : Nat)) ∧ ∃ m, w' = W.drewN m := fun W => (hix W).mono fun e w' hq => ⟨hq.1, 0, by rw [hq.2]; rfl⟩
              have HIX := hide hixq
              clear hix hixq hkfe hv1 hv2 fF hd
              go_quiet ((go_at_call 17; exact Calls.quiet_of (unhide HIX _)))
              go_wp2_with fail
              go_meet
              case rel => exact ⟨by rw [hcbe]; cases v1 <;> cases v2 <;> rfl, _, rfl⟩
            · have hdI : ¬ (x : Int) < (n : Int) := by omega
              have hcbe : cb = false := by rw [HCb0.out, HD.out.1, decide_eq_false hd, Bool.false_and]
              clear fF hd
              go_quiet (fail)
              go_wp2_with fail
              go_meet
              case rel => exact ⟨by rw [hcbe], nq, rfl⟩
          case rest =>
            obtain ⟨rfl, m0, rfl⟩ := hcut
            obtain ⟨U0, hU0⟩ : ∃ U, U = Y.drewN m0 := ⟨_, rfl⟩
            rw [← hU0]
            have HU0 : Hid (Own encP 3 38 U0 X.heap.size (.slice A5 cl c5) cl (L) ∧ Blk U0 V.heap.size 38 #[.int .i64 px, .int .i64 py, .int .i64 pz] ∧ (Value.slice A5 cl c5).ownBlock ≠ some V.heap.size ∧ Below X.heap.size X U0) := by
              rw [hU0]; exact ⟨HSt.out.1, HSt.out.2.1, HSt.out.2.2.1, below_drewN HSt.out.2.2.2 _⟩
            clear hU0
            go_upto_if 74 with fail
            go_cut [5] (fun v wx => Own encP 3 38 wx X.heap.size v (L ++ crsA F n h k 0).length (L ++ crsA F n h k 0) ∧ Blk wx V.heap.size 38 #[.int .i64 px, .int .i64 py, .int .i64 pz] ∧ v.ownBlock ≠ some V.heap.size ∧ Below X.heap.size X wx)
            case first =>
              cases cb with
              | true =>
                have hA : crsA F n h k 0 = [(px + h / 2, py, pz)] := by unfold crsA; rw [← HCb0.out, if_pos rfl, HM.out.1]
                have HA0 := hide hA
                have hbl := HU0.out.2.1
                have y0 : U0.cell? ⟨V.heap.size, 0, none⟩ = some (.int .i64 px) := hbl.cell 0
                have y1 : U0.cell? ⟨V.heap.size, 1, none⟩ = some (.int .i64 py) := hbl.cell 1
                have y2 : U0.cell? ⟨V.heap.size, 2, none⟩ = some (.int .i64 pz) := hbl.cell 2
                have hvl := hbl.lt
                have hzU := HU0.out.2.2.2.size
                clear hbl hA
                go_wp2_with (at_builtin; refine wpList_append1 rfl _ _ _ rfl Try.underlying45 infoP rfl (by omega) encP_len encP_one rfl (HU0.out.1.alloc _) U0.heap.size 1 (px + h / 2, py, pz) rfl (Blk.new _ _ _) (by unfold maxLen; omega) (by omega) (by simp; omega) ?_; intro g2 cap2 w2 hown2 hg2 hB2 hat2 hgb2 hlt2)
                go_meet
                case rel =>
                  rw [HA0.out]
                  refine ⟨by rw [List.length_append, List.length_singleton, ← Hcl0.out]; exact hown2, ?_, ?_, ?_⟩
                  · exact (HU0.out.2.1.alloc _).grown hg2 (fun e => HU0.out.2.2.1 e.symm)
                  · intro e
                    injection e with e
                    have e : g2 = V.heap.size := e
                    rcases hat2 with hq | hq
                    · exact HU0.out.2.2.1 (hq.trans (congrArg some e))
                    · have h2 : (U0.alloc (.cells (encP (px + h / 2, py, pz)).toArray 38)).heap.size = U0.heap.size + 1 := by simp
                      have h3 : g2 = U0.heap.size + 1 := hq.trans h2
                      omega
                  · exact (HU0.out.2.2.2.alloc hzU _).trans hB2
              | false =>
                have hA : crsA F n h k 0 = [] := by unfold crsA; rw [← HCb0.out, if_neg (by simp)]
                have HA0 := hide hA
                clear hA
                go_wp2_with fail
                go_meet
                case rel =>
                  rw [HA0.out, List.append_nil]
                  exact ⟨by rw [← Hcl0.out]; exact HU0.out.1, HU0.out.2.1, HU0.out.2.2.1, HU0.out.2.2.2⟩
            case rest =>
              obtain ⟨S1, rfl⟩ : ∃ S, S = wc := ⟨_, rfl⟩
              obtain ⟨hO1, hP1, hQ1, hR1⟩ := hcut
              obtain ⟨A6, c6, rfl⟩ := hO1.form
              obtain ⟨cl1', hcl1⟩ : ∃ c, c = (L ++ crsA F n h k 0).length := ⟨_, rfl⟩
              rw [← hcl1] at hO1 hQ1 ⊢
              have hcb1 : cl1' ≤ 2187 + 1 := by
                rw [hcl1, List.length_append]
                have := crsA_few F n h k 0
                have := Hcl0.out
                omega
              have Hcl1 := hide hcl1
              clear hcl1
              have HT1 := hide (And.intro hO1 (And.intro hP1 (And.intro hQ1 hR1)))
              clear hO1 hP1 hQ1 hR1 HU0 HCb0
              go_upto_region 13 with fail
              obtain ⟨cb, hcb⟩ : ∃ cb, cb = crsB F n k 1 := ⟨_, rfl⟩
              have HCb1 := hide hcb
              clear hcb
              go_cut [109] (fun v wx => v = .bool cb ∧ ∃ m, wx = S1.drewN m)
              case first =>
                obtain ⟨f0, f1, fF⟩ := HFact.out S1 HT1.out.2.2.2
                by_cases hd : y < n
                · have hdI : (y : Int) < (n : Int) := by omega
                  have hkf := HLf.out.2.1 hd
                  obtain ⟨kf, hkfe⟩ : ∃ kf, kf = farK n k 1 := ⟨_, rfl⟩
                  have hix := HIx.out.2.1
                  rw [← hkfe] at hkf hix
                  have hkfI : (kf : Int) < (N : Int) := by omega
                  have s1 := fF k hlt
                  have s2 := fF kf hkf
                  obtain ⟨v1, hv1⟩ : ∃ v, v = F.getD k false := ⟨_, rfl⟩
                  obtain ⟨v2, hv2⟩ : ∃ v, v = F.getD kf false := ⟨_, rfl⟩
                  have hcbe : cb = (v1 != v2) := by rw [HCb1.out, HD.out.2.1, decide_eq_true hd, Bool.true_and, hv1, hv2, hkfe]
                  rw [← hv1] at s1
                  rw [← hv2] at s2
                  have sx : IntKind.i64.wrap ((y : Int) + 1) = (y : Int) + 1 := IntWalk.i64_in _ (by omega)
                  have hixq : ∀ W, Calls Try.prog 17 #[.int .i64 l, .int .i64 (x : Int), .int .i64 ((y : Int) + 1), .int .i64 (z : Int)] W fun e w' => e = .returned (.int .i64 (kf : Nat)) ∧ ∃ m, w' = W.drewN m := fun W => (hix W).mono fun e w' hq => ⟨hq.1, 0, by rw [hq.2]; rfl⟩
                  have HIX := hide hixq
                  clear hix hixq hkfe hv1 hv2 fF hd
                  go_quiet ((go_at_call 17; exact Calls.quiet_of (unhide HIX _)))
                  go_wp2_with fail
                  go_meet
                  case rel => exact ⟨by rw [hcbe]; cases v1 <;> cases v2 <;> rfl, _, rfl⟩
                · have hdI : ¬ (y : Int) < (n : Int) := by omega
                  have hcbe : cb = false := by rw [HCb1.out, HD.out.2.1, decide_eq_false hd, Bool.false_and]
                  clear fF hd
                  go_quiet (fail)
                  go_wp2_with fail
                  go_meet
                  case rel => exact ⟨by rw [hcbe], nq, rfl⟩
              case rest =>
                obtain ⟨rfl, m1, rfl⟩ := hcut
                obtain ⟨U1, hU1⟩ : ∃ U, U = S1.drewN m1 := ⟨_, rfl⟩
                rw [← hU1]
                have HU1 : Hid (Own encP 3 38 U1 X.heap.size (.slice A6 cl1' c6) cl1' (L ++ crsA F n h k 0) ∧ Blk U1 V.heap.size 38 #[.int .i64 px, .int .i64 py, .int .i64 pz] ∧ (Value.slice A6 cl1' c6).ownBlock ≠ some V.heap.size ∧ Below X.heap.size X U1) := by
                  rw [hU1]; exact ⟨HT1.out.1, HT1.out.2.1, HT1.out.2.2.1, below_drewN HT1.out.2.2.2 _⟩
                clear hU1
                go_upto_if 109 with fail
                go_cut [5] (fun v wx => Own encP 3 38 wx X.heap.size v (L ++ crsA F n h k 0 ++ crsA F n h k 1).length (L ++ crsA F n h k 0 ++ crsA F n h k 1) ∧ Blk wx V.heap.size 38 #[.int .i64 px, .int .i64 py, .int .i64 pz] ∧ v.ownBlock ≠ some V.heap.size ∧ Below X.heap.size X wx)
                case first =>
                  cases cb with
                  | true =>
                    have hA : crsA F n h k 1 = [(px, py + h / 2, pz)] := by unfold crsA; rw [← HCb1.out, if_pos rfl, HM.out.2.1]
                    have HA1 := hide hA
                    have hbl := HU1.out.2.1
                    have y0 : U1.cell? ⟨V.heap.size, 0, none⟩ = some (.int .i64 px) := hbl.cell 0
                    have y1 : U1.cell? ⟨V.heap.size, 1, none⟩ = some (.int .i64 py) := hbl.cell 1
                    have y2 : U1.cell? ⟨V.heap.size, 2, none⟩ = some (.int .i64 pz) := hbl.cell 2
                    have hvl := hbl.lt
                    have hzU := HU1.out.2.2.2.size
                    clear hbl hA
                    go_wp2_with (at_builtin; refine wpList_append1 rfl _ _ _ rfl Try.underlying45 infoP rfl (by omega) encP_len encP_one rfl (HU1.out.1.alloc _) U1.heap.size 1 (px, py + h / 2, pz) rfl (Blk.new _ _ _) (by unfold maxLen; omega) (by omega) (by simp; omega) ?_; intro g2 cap2 w2 hown2 hg2 hB2 hat2 hgb2 hlt2)
                    go_meet
                    case rel =>
                      rw [HA1.out]
                      refine ⟨by rw [List.length_append, List.length_singleton, ← Hcl1.out]; exact hown2, ?_, ?_, ?_⟩
                      · exact (HU1.out.2.1.alloc _).grown hg2 (fun e => HU1.out.2.2.1 e.symm)
                      · intro e
                        injection e with e
                        have e : g2 = V.heap.size := e
                        rcases hat2 with hq | hq
                        · exact HU1.out.2.2.1 (hq.trans (congrArg some e))
                        · have h2 : (U1.alloc (.cells (encP (px, py + h / 2, pz)).toArray 38)).heap.size = U1.heap.size + 1 := by simp
                          have h3 : g2 = U1.heap.size + 1 := hq.trans h2
                          omega
                      · exact (HU1.out.2.2.2.alloc hzU _).trans hB2
                  | false =>
                    have hA : crsA F n h k 1 = [] := by unfold crsA; rw [← HCb1.out, if_neg (by simp)]
                    have HA1 := hide hA
                    clear hA
                    go_wp2_with fail
                    go_meet
                    case rel =>
                      rw [HA1.out, List.append_nil]
                      exact ⟨by rw [← Hcl1.out]; exact HU1.out.1, HU1.out.2.1, HU1.out.2.2.1, HU1.out.2.2.2⟩
                case rest =>
                  obtain ⟨S2, rfl⟩ : ∃ S, S = wc := ⟨_, rfl⟩
                  obtain ⟨hO2, hP2, hQ2, hR2⟩ := hcut
                  obtain ⟨A7, c7, rfl⟩ := hO2.form
                  obtain ⟨cl2', hcl2⟩ : ∃ c, c = (L ++ crsA F n h k 0 ++ crsA F n h k 1).length := ⟨_, rfl⟩
                  rw [← hcl2] at hO2 hQ2 ⊢
                  have hcb2 : cl2' ≤ 2187 + 2 := by
                    rw [hcl2, List.length_append]
                    have := crsA_few F n h k 1
                    have := Hcl1.out
                    omega
                  have Hcl2 := hide hcl2
                  clear hcl2
                  have HT2 := hide (And.intro hO2 (And.intro hP2 (And.intro hQ2 hR2)))
                  clear hO2 hP2 hQ2 hR2 HU1 HCb1
                  go_upto_region 15 with fail
                  obtain ⟨cb, hcb⟩ : ∃ cb, cb = crsB F n k 2 := ⟨_, rfl⟩
                  have HCb2 := hide hcb
                  clear hcb
                  go_cut [144] (fun v wx => v = .bool cb ∧ ∃ m, wx = S2.drewN m)
                  case first =>
                    obtain ⟨f0, f1, fF⟩ := HFact.out S2 HT2.out.2.2.2
                    by_cases hd : z < n
                    · have hdI : (z : Int) < (n : Int) := by omega
                      have hkf := HLf.out.2.2 hd
                      obtain ⟨kf, hkfe⟩ : ∃ kf, kf = farK n k 2 := ⟨_, rfl⟩
                      have hix := HIx.out.2.2
                      rw [← hkfe] at hkf hix
                      have hkfI : (kf : Int) < (N : Int) := by omega
                      have s1 := fF k hlt
                      have s2 := fF kf hkf
                      obtain ⟨v1, hv1⟩ : ∃ v, v = F.getD k false := ⟨_, rfl⟩
                      obtain ⟨v2, hv2⟩ : ∃ v, v = F.getD kf false := ⟨_, rfl⟩
                      have hcbe : cb = (v1 != v2) := by rw [HCb2.out, HD.out.2.2, decide_eq_true hd, Bool.true_and, hv1, hv2, hkfe]
                      rw [← hv1] at s1
                      rw [← hv2] at s2
                      have sx : IntKind.i64.wrap ((z : Int) + 1) = (z : Int) + 1 := IntWalk.i64_in _ (by omega)
                      have hixq : ∀ W, Calls Try.prog 17 #[.int .i64 l, .int .i64 (x : Int), .int .i64 (y : Int), .int .i64 ((z : Int) + 1)] W fun e w' => e = .returned (.int .i64 (kf : Nat)) ∧ ∃ m, w' = W.drewN m := fun W => (hix W).mono fun e w' hq => ⟨hq.1, 0, by rw [hq.2]; rfl⟩
                      have HIX := hide hixq
                      clear hix hixq hkfe hv1 hv2 fF hd
                      go_quiet ((go_at_call 17; exact Calls.quiet_of (unhide HIX _)))
                      go_wp2_with fail
                      go_meet
                      case rel => exact ⟨by rw [hcbe]; cases v1 <;> cases v2 <;> rfl, _, rfl⟩
                    · have hdI : ¬ (z : Int) < (n : Int) := by omega
                      have hcbe : cb = false := by rw [HCb2.out, HD.out.2.2, decide_eq_false hd, Bool.false_and]
                      clear fF hd
                      go_quiet (fail)
                      go_wp2_with fail
                      go_meet
                      case rel => exact ⟨by rw [hcbe], nq, rfl⟩
                  case rest =>
                    obtain ⟨rfl, m2, rfl⟩ := hcut
                    obtain ⟨U2, hU2⟩ : ∃ U, U = S2.drewN m2 := ⟨_, rfl⟩
                    rw [← hU2]
                    have HU2 : Hid (Own encP 3 38 U2 X.heap.size (.slice A7 cl2' c7) cl2' (L ++ crsA F n h k 0 ++ crsA F n h k 1) ∧ Blk U2 V.heap.size 38 #[.int .i64 px, .int .i64 py, .int .i64 pz] ∧ (Value.slice A7 cl2' c7).ownBlock ≠ some V.heap.size ∧ Below X.heap.size X U2) := by
                      rw [hU2]; exact ⟨HT2.out.1, HT2.out.2.1, HT2.out.2.2.1, below_drewN HT2.out.2.2.2 _⟩
                    clear hU2
                    go_upto_if 144 with fail
                    cases cb with
                    | true =>
                      have hA : crsA F n h k 2 = [(px, py, pz + h / 2)] := by unfold crsA; rw [← HCb2.out, if_pos rfl, HM.out.2.2]
                      have hfin : crsN F n h (k + 1) = L ++ crsA F n h k 0 ++ crsA F n h k 1 ++ [(px, py, pz + h / 2)] := by rw [crsN_succ, ← HLL.out, hA]
                      have HA2 := hide hfin
                      have hbl := HU2.out.2.1
                      have y0 : U2.cell? ⟨V.heap.size, 0, none⟩ = some (.int .i64 px) := hbl.cell 0
                      have y1 : U2.cell? ⟨V.heap.size, 1, none⟩ = some (.int .i64 py) := hbl.cell 1
                      have y2 : U2.cell? ⟨V.heap.size, 2, none⟩ = some (.int .i64 pz) := hbl.cell 2
                      have hvl := hbl.lt
                      have hzU := HU2.out.2.2.2.size
                      clear hbl hA hfin
                      go_wp2_with (at_builtin; refine wpList_append1 rfl _ _ _ rfl Try.underlying45 infoP rfl (by omega) encP_len encP_one rfl (HU2.out.1.alloc _) U2.heap.size 1 (px, py, pz + h / 2) rfl (Blk.new _ _ _) (by unfold maxLen; omega) (by omega) (by simp; omega) ?_; intro g2 cap2 w2 hown2 hg2 hB2 hat2 hgb2 hlt2)
                      go_roundw
                      case rel => exact ⟨k + 1, by omega, by go_num, by rw [HA2.out, List.length_append, List.length_singleton, ← Hcl2.out]; exact hown2, (HU2.out.2.2.2.alloc hzU _).trans hB2⟩
                      case measure => simp [intOf]; omega
                    | false =>
                      have hA : crsA F n h k 2 = [] := by unfold crsA; rw [← HCb2.out, if_neg (by simp)]
                      have hfin : crsN F n h (k + 1) = L ++ crsA F n h k 0 ++ crsA F n h k 1 := by rw [crsN_succ, ← HLL.out, hA, List.append_nil]
                      have HA2 := hide hfin
                      clear hA hfin
                      go_wp2
                      go_roundw
                      case rel => exact ⟨k + 1, by omega, by go_num, by rw [HA2.out, ← Hcl2.out]; exact HU2.out.1, HU2.out.2.2.2⟩
                      case measure => simp [intOf]; omega
        · have hke : k = N := by omega
          have hE : Own encP 3 38 V w.heap.size (.slice A5 cl c5) (crsN F n h N).length (crsN F n h N) := by
            have h := HO.out.1.base_le (b' := w.heap.size) (by omega)
            rw [hke] at h
            have hc := HO.out.2.2
            rw [hke] at hc
            rw [← hc]
            exact h
          have hBE := HX.out.1.trans (HO.out.2.1.mono (by omega))
          have HE := hide (And.intro hE hBE)
          clear hE hBE hcf
          go_wp2
          go_ret
          exact ⟨_, rfl, HE.out.1, HE.out.2⟩
end Go.Proofs.Ytfljcgehhnmamaa
