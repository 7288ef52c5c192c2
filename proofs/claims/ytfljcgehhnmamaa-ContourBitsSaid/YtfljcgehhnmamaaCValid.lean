/- ref08.Valid: true of a valid field of a level from 1 to 3. -/
import Derived.Deep.DeepCutAuto
import Derived.Test.YtfljcgehhnmamaaCB29
import Derived.Test.YtfljcgehhnmamaaCB38
namespace Go.Proofs.Ytfljcgehhnmamaa
open Go.RowKit Go.Sort
set_option maxRecDepth 100000 in
set_option maxHeartbeats 16000000 in
theorem valid_true (l : Nat) (h1 : 1 ≤ l) (h3 : l ≤ 3) (A : Option Addr) (c : Nat) (F : List Bool) (w : World) (hs : Sl encBl 1 w w.heap.size A F) (hv : validF l F = true) :
    Calls Try.prog 30 #[.agg #[.int .i64 l, .slice A F.length c]] w fun e w' => e = .returned (.bool true) ∧ Below w.heap.size w w' := by
  obtain ⟨hF, hok⟩ := valid_parts hv
  obtain ⟨n, hn⟩ : ∃ n, n = 2 ^ l := ⟨_, rfl⟩
  obtain ⟨N, hN⟩ : ∃ N, N = F.length := ⟨_, rfl⟩
  rw [← hn] at hF hok
  rw [← hN] at hF hok ⊢
  have hc3 : l = 1 ∨ l = 2 ∨ l = 3 := by omega
  have hn8 : n = 2 ∨ n = 4 ∨ n = 8 := by rcases hc3 with rfl | rfl | rfl <;> simp [hn]
  have hNn : (n = 2 ∧ N = 27) ∨ (n = 4 ∧ N = 125) ∨ (n = 8 ∧ N = 729) := by rcases hn8 with rfl | rfl | rfl <;> simp [hF]
  obtain ⟨bA, oA, rfl, hbA, _⟩ := hs.at (encBl_get (F := F) (i := 0) (by rw [← hN]; omega))
  have HS := hide (And.intro hs (And.intro hn (And.intro hN (And.intro hF (And.intro hok (And.intro hc3 hNn))))))
  clear hs hn hN hF hok hc3 hv
  go_enter Try.func30, Try.ntmps30
  go_upto_region 1 with fail
  obtain ⟨X, hX⟩ : ∃ X, X = w.alloc (.cells #[.int .i64 l, .slice (some ⟨bA, oA, none⟩) N c] 26) := ⟨_, rfl⟩
  rw [← hX]
  have hBX : Below w.heap.size w X := by rw [hX]; exact (Below.refl _ w).alloc (Nat.le_refl _) _
  have hbX : Blk X w.heap.size 26 #[.int .i64 l, .slice (some ⟨bA, oA, none⟩) N c] := by rw [hX]; exact Blk.new _ _ _
  have c0 : X.cell? ⟨w.heap.size, 0, none⟩ = some (.int .i64 l) := hbX.cell 0
  have c1 : X.cell? ⟨w.heap.size, 1, none⟩ = some (.slice (some ⟨bA, oA, none⟩) N c) := hbX.cell 1
  have hzX := hBX.size
  have hzX1 : w.heap.size < X.heap.size := by rw [hX]; simp
  have HX := hide (And.intro hBX ((HS.out.1.below hBX)))
  clear hBX hbX hX
  go_upto_region 3 with fail
  go_cut [3] (fun v wx => v = .int .i64 ((n : Int) + 1) ∧ wx = X)
  case first =>
    have hse := HS.out.2.1
    rcases HS.out.2.2.2.2.2.1 with rfl | rfl | rfl
    · go_wp2_with fail
      go_meet
      case rel => exact ⟨by rw [hse]; rfl, rfl⟩
    · go_wp2_with fail
      go_meet
      case rel => exact ⟨by rw [hse]; rfl, rfl⟩
    · go_wp2_with fail
      go_meet
      case rel => exact ⟨by rw [hse]; rfl, rfl⟩
  case rest =>
    obtain ⟨rfl, rfl⟩ := hcut
    obtain ⟨X, rfl⟩ : ∃ X, X = wc := ⟨_, rfl⟩
    rcases HS.out.2.2.2.2.2.2 with ⟨hn', hN'⟩ | ⟨hn', hN'⟩ | ⟨hn', hN'⟩
    · subst hn'
      subst hN'
      go_wp2_with fail
      go_loopw [4] (fun kv wr => ∃ k : Nat, k ≤ 27 ∧ kv = .int .i64 k ∧ Below X.heap.size X wr) (fun kv _ => 27 - (intOf kv).toNat)
      case atStart => exact ⟨0, by omega, rfl, Below.refl _ X⟩
      case round =>
        obtain ⟨k, hk, rfl, hB⟩ := hrel
        obtain ⟨V, rfl⟩ : ∃ V, V = wr := ⟨_, rfl⟩
        have f0 := (hB.cell (p := ⟨w.heap.size, 0, none⟩) (by dsimp only; omega)).trans c0
        have f1 := (hB.cell (p := ⟨w.heap.size, 1, none⟩) (by dsimp only; omega)).trans c1
        have hsV := HX.out.2.below (hB.mono (by omega))
        have HBv := hide hB
        clear hB
        by_cases hlt : k < 27
        · have i1 : (k : Int) < 27 := by omega
          obtain ⟨b', o', hbo, _, hcl⟩ := hsV.at (encBl_get (F := F) (i := k) (by rw [← HS.out.2.2.1]; exact hlt))
          cases hbo
          have g0 := hcl 0 _ rfl
          simp only [Nat.mul_one, Nat.add_zero] at g0
          clear hcl hsV
          cases hb : F.getD k false with
          | true =>
            have hg := okF_get HS.out.2.2.2.2.1 hlt hb
            have e0 := hg 0 (by omega)
            have e1 := hg 1 (by omega)
            have e2 := hg 2 (by omega)
            unfold badC compK at e0 e1 e2
            simp only [if_true, Nat.one_ne_zero, if_false, show ¬ (2 = 0) by omega, show ¬ (2 = 1) by omega, Bool.or_eq_false_iff, beq_eq_false_iff_ne, ne_eq, Nat.reduceAdd] at e0 e1 e2
            rw [hb] at g0
            have HE := hide (And.intro e0 (And.intro e1 e2))
            clear hg hb e0 e1 e2
            have n0 : ((k : Int) % 3 == 0) = false := beq_eq_false_iff_ne.2 (by have := HE.out.1.1; omega)
            have n1 : ((k : Int) / 3 % 3 == 0) = false := beq_eq_false_iff_ne.2 (by have := HE.out.2.1.1; omega)
            have n2 : ((k : Int) / 3 / 3 == 0) = false := beq_eq_false_iff_ne.2 (by have := HE.out.2.2.1; omega)
            have n3 : ((k : Int) % 3 == 2) = false := beq_eq_false_iff_ne.2 (by have := HE.out.1.2; omega)
            have n4 : ((k : Int) / 3 % 3 == 2) = false := beq_eq_false_iff_ne.2 (by have := HE.out.2.1.2; omega)
            have n5 : ((k : Int) / 3 / 3 == 2) = false := beq_eq_false_iff_ne.2 (by have := HE.out.2.2.2; omega)
            go_wp2
            go_roundw
            case rel => exact ⟨k + 1, by omega, by go_num, HBv.out⟩
            case measure => simp [intOf]; omega
          | false =>
            rw [hb] at g0
            clear hb
            go_wp2
            all_goals
              go_roundw
              case rel => exact ⟨k + 1, by omega, by go_num, HBv.out⟩
              case measure => simp [intOf]; omega
        · have HE := hide (HX.out.1.trans (HBv.out.mono (by omega)))
          go_wp2
          go_ret
          exact ⟨rfl, HE.out⟩
    · subst hn'
      subst hN'
      go_wp2_with fail
      go_loopw [4] (fun kv wr => ∃ k : Nat, k ≤ 125 ∧ kv = .int .i64 k ∧ Below X.heap.size X wr) (fun kv _ => 125 - (intOf kv).toNat)
      case atStart => exact ⟨0, by omega, rfl, Below.refl _ X⟩
      case round =>
        obtain ⟨k, hk, rfl, hB⟩ := hrel
        obtain ⟨V, rfl⟩ : ∃ V, V = wr := ⟨_, rfl⟩
        have f0 := (hB.cell (p := ⟨w.heap.size, 0, none⟩) (by dsimp only; omega)).trans c0
        have f1 := (hB.cell (p := ⟨w.heap.size, 1, none⟩) (by dsimp only; omega)).trans c1
        have hsV := HX.out.2.below (hB.mono (by omega))
        have HBv := hide hB
        clear hB
        by_cases hlt : k < 125
        · have i1 : (k : Int) < 125 := by omega
          obtain ⟨b', o', hbo, _, hcl⟩ := hsV.at (encBl_get (F := F) (i := k) (by rw [← HS.out.2.2.1]; exact hlt))
          cases hbo
          have g0 := hcl 0 _ rfl
          simp only [Nat.mul_one, Nat.add_zero] at g0
          clear hcl hsV
          cases hb : F.getD k false with
          | true =>
            have hg := okF_get HS.out.2.2.2.2.1 hlt hb
            have e0 := hg 0 (by omega)
            have e1 := hg 1 (by omega)
            have e2 := hg 2 (by omega)
            unfold badC compK at e0 e1 e2
            simp only [if_true, Nat.one_ne_zero, if_false, show ¬ (2 = 0) by omega, show ¬ (2 = 1) by omega, Bool.or_eq_false_iff, beq_eq_false_iff_ne, ne_eq, Nat.reduceAdd] at e0 e1 e2
            rw [hb] at g0
            have HE := hide (And.intro e0 (And.intro e1 e2))
            clear hg hb e0 e1 e2
            have n0 : ((k : Int) % 5 == 0) = false := beq_eq_false_iff_ne.2 (by have := HE.out.1.1; omega)
            have n1 : ((k : Int) / 5 % 5 == 0) = false := beq_eq_false_iff_ne.2 (by have := HE.out.2.1.1; omega)
            have n2 : ((k : Int) / 5 / 5 == 0) = false := beq_eq_false_iff_ne.2 (by have := HE.out.2.2.1; omega)
            have n3 : ((k : Int) % 5 == 4) = false := beq_eq_false_iff_ne.2 (by have := HE.out.1.2; omega)
            have n4 : ((k : Int) / 5 % 5 == 4) = false := beq_eq_false_iff_ne.2 (by have := HE.out.2.1.2; omega)
            have n5 : ((k : Int) / 5 / 5 == 4) = false := beq_eq_false_iff_ne.2 (by have := HE.out.2.2.2; omega)
            go_wp2
            go_roundw
            case rel => exact ⟨k + 1, by omega, by go_num, HBv.out⟩
            case measure => simp [intOf]; omega
          | false =>
            rw [hb] at g0
            clear hb
            go_wp2
            all_goals
              go_roundw
              case rel => exact ⟨k + 1, by omega, by go_num, HBv.out⟩
              case measure => simp [intOf]; omega
        · have HE := hide (HX.out.1.trans (HBv.out.mono (by omega)))
          go_wp2
          go_ret
          exact ⟨rfl, HE.out⟩
    · subst hn'
      subst hN'
      go_wp2_with fail
      go_loopw [4] (fun kv wr => ∃ k : Nat, k ≤ 729 ∧ kv = .int .i64 k ∧ Below X.heap.size X wr) (fun kv _ => 729 - (intOf kv).toNat)
      case atStart => exact ⟨0, by omega, rfl, Below.refl _ X⟩
      case round =>
        obtain ⟨k, hk, rfl, hB⟩ := hrel
        obtain ⟨V, rfl⟩ : ∃ V, V = wr := ⟨_, rfl⟩
        have f0 := (hB.cell (p := ⟨w.heap.size, 0, none⟩) (by dsimp only; omega)).trans c0
        have f1 := (hB.cell (p := ⟨w.heap.size, 1, none⟩) (by dsimp only; omega)).trans c1
        have hsV := HX.out.2.below (hB.mono (by omega))
        have HBv := hide hB
        clear hB
        by_cases hlt : k < 729
        · have i1 : (k : Int) < 729 := by omega
          obtain ⟨b', o', hbo, _, hcl⟩ := hsV.at (encBl_get (F := F) (i := k) (by rw [← HS.out.2.2.1]; exact hlt))
          cases hbo
          have g0 := hcl 0 _ rfl
          simp only [Nat.mul_one, Nat.add_zero] at g0
          clear hcl hsV
          cases hb : F.getD k false with
          | true =>
            have hg := okF_get HS.out.2.2.2.2.1 hlt hb
            have e0 := hg 0 (by omega)
            have e1 := hg 1 (by omega)
            have e2 := hg 2 (by omega)
            unfold badC compK at e0 e1 e2
            simp only [if_true, Nat.one_ne_zero, if_false, show ¬ (2 = 0) by omega, show ¬ (2 = 1) by omega, Bool.or_eq_false_iff, beq_eq_false_iff_ne, ne_eq, Nat.reduceAdd] at e0 e1 e2
            rw [hb] at g0
            have HE := hide (And.intro e0 (And.intro e1 e2))
            clear hg hb e0 e1 e2
            have n0 : ((k : Int) % 9 == 0) = false := beq_eq_false_iff_ne.2 (by have := HE.out.1.1; omega)
            have n1 : ((k : Int) / 9 % 9 == 0) = false := beq_eq_false_iff_ne.2 (by have := HE.out.2.1.1; omega)
            have n2 : ((k : Int) / 9 / 9 == 0) = false := beq_eq_false_iff_ne.2 (by have := HE.out.2.2.1; omega)
            have n3 : ((k : Int) % 9 == 8) = false := beq_eq_false_iff_ne.2 (by have := HE.out.1.2; omega)
            have n4 : ((k : Int) / 9 % 9 == 8) = false := beq_eq_false_iff_ne.2 (by have := HE.out.2.1.2; omega)
            have n5 : ((k : Int) / 9 / 9 == 8) = false := beq_eq_false_iff_ne.2 (by have := HE.out.2.2.2; omega)
            go_wp2
            go_roundw
            case rel => exact ⟨k + 1, by omega, by go_num, HBv.out⟩
            case measure => simp [intOf]; omega
          | false =>
            rw [hb] at g0
            clear hb
            go_wp2
            all_goals
              go_roundw
              case rel => exact ⟨k + 1, by omega, by go_num, HBv.out⟩
              case measure => simp [intOf]; omega
        · have HE := hide (HX.out.1.trans (HBv.out.mono (by omega)))
          go_wp2
          go_ret
          exact ⟨rfl, HE.out⟩
end Go.Proofs.Ytfljcgehhnmamaa
