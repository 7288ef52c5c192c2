/- ref01.From, whatever the number. -/
import Derived.Test.YtelfnmohpjkilaaGreatDoorCB21
namespace Go.Proofs.YtelfnmohpjkilaaGreatDoor
open Go.RowKit Go.Sort
theorem u64_in4 {a : Int} (h0 : 0 ≤ a) (h1 : a < 18446744073709551616) : IntKind.u64.wrap a = a := by
  rw [IntKind.wrap_u64]
  omega
theorem pow_few4 {k m v n : Nat} (h : v + 65536 ^ k * m = n) (hm : 0 < m) (hn : n ≤ 9223372036854775808) : k ≤ 4 := by
  rcases Nat.lt_or_ge 4 k with hk | hk
  · have h1 : 65536 ^ 5 ≤ 65536 ^ k := Nat.pow_le_pow_right (by omega) (by omega)
    have h2 : 65536 ^ k * 1 ≤ 65536 ^ k * m := Nat.mul_le_mul_left _ hm
    omega
  · exact hk
set_option maxRecDepth 100000 in
set_option maxHeartbeats 16000000 in
theorem fromI_any (x : Int) (h0 : -9223372036854775808 ≤ x) (h1 : x < 9223372036854775808) (w : World) :
    Calls Tryz.prog 38 #[.int .i64 x] w fun e w' => ∃ b s, e = .returned (.agg #[.bool b, .string s]) ∧ WideI (.agg #[.bool b, .string s]) x ∧ Below w.heap.size w w' := by
  obtain ⟨n, hm⟩ : ∃ m : Nat, (m : Int) = if x < 0 then -x else x := ⟨(if x < 0 then -x else x).toNat, by split <;> omega⟩
  have hn : n ≤ 9223372036854775808 := by split at hm <;> omega
  have hxi : ∀ l : List Nat, valD l = n → x = intD (decide (x < 0)) l := fun l hl => by
    unfold intD
    rw [hl]
    by_cases h : x < 0
    · rw [if_pos h] at hm; rw [decide_eq_true h, if_pos rfl]; omega
    · rw [if_neg h] at hm; rw [decide_eq_false h, if_neg (by decide)]; omega
  have HXI := hide hxi
  clear hxi
  go_enter Tryz.func38, Tryz.ntmps38
  go_upto_region 1 with fail
  obtain ⟨X, hX⟩ : ∃ X, X = w.alloc (.cells #[.bool false, .string ⟨#[]⟩] 46) := ⟨_, rfl⟩
  rw [← hX]
  have hb : Blk X w.heap.size 46 #[.bool false, .string ⟨#[]⟩] := by rw [hX]; exact Blk.new _ _ _
  have hBX : Below w.heap.size w X := by rw [hX]; exact (Below.refl _ w).alloc (Nat.le_refl _) _
  obtain ⟨bx, hbx⟩ : ∃ b, b = w.heap.size := ⟨_, rfl⟩
  rw [← hbx] at hb ⊢
  have HX := hide (And.intro hb (And.intro hBX hbx))
  clear hb hBX hbx hX
  go_upto_if 8 with fail
  go_cut [4] (fun v wx => v = .int .u64 (n : Int) ∧ wx = X)
  case first =>
    by_cases hneg : x < 0
    · rw [if_pos hneg] at hm
      have w1 : IntKind.u64.wrap x = x + 18446744073709551616 := by rw [IntKind.wrap_u64]; omega
      have w2 : IntKind.u64.wrap (-(x + 18446744073709551616)) = (n : Int) := by rw [IntKind.wrap_u64]; omega
      go_wp2
      go_meet
      case rel => exact ⟨by rw [hm], rfl⟩
    · rw [if_neg hneg] at hm
      have w1 : IntKind.u64.wrap x = (n : Int) := by rw [IntKind.wrap_u64]; omega
      go_wp2
      go_meet
      case rel => exact ⟨by rw [hm], rfl⟩
  case rest =>
  obtain ⟨rfl, hw⟩ := hcut
  obtain rfl : X = wc := hw.symm
  clear hm
  go_wp2_with fail
  go_loopw [3, 4] (fun ov mv wr => ∃ (k m : Nat) (out : List Nat), mv = .int .u64 m ∧ Own encI 1 3 wr X.heap.size ov k out ∧ okD out ∧ valD out + 65536 ^ k * m = n ∧ k ≤ 5 ∧ Below X.heap.size X wr) (fun _ mv _ => (intOf mv).toNat)
  case atStart => exact ⟨0, n, [], rfl, Own.nil, (fun x hx => by cases hx), by simp [valD], by omega, Below.refl _ X⟩
  case round =>
    obtain ⟨k, m, out, rfl, hown, hok, hval, hk, hB⟩ := hrel
    obtain ⟨V, rfl⟩ : ∃ V, V = wr := ⟨_, rfl⟩
    obtain ⟨A1, c1, rfl⟩ := hown.form
    have hzr := hB.size
    by_cases hm0 : m = 0
    · subst hm0
      have i1 : ¬ (0 : Int) < ((0 : Nat) : Int) := by omega
      rw [Nat.mul_zero, Nat.add_zero] at hval
      have hwd := wideE_any (decide (x < 0)) A1 c1 out V (hown.sl encI_len (Nat.le_refl _)) (by rw [← hown.1]; exact hown.place.1) hok (by rw [← hown.1]; omega) x (HXI.out out hval)
      rw [← hown.1] at hwd
      have hr := HX.out.1.below hB HX.out.1.lt
      have H5 := hide (And.intro hwd (And.intro hr (HX.out.2.1.trans (hB.mono HX.out.2.1.size))))
      clear hwd hr hval hown hok hB i1
      go_wp2_with fail
      with_reducible refine H5.out.1.mono ?_
      rintro e w8 ⟨rb, rs, rfl, hW, hB8⟩
      have hr6 := H5.out.2.1.below hB8 H5.out.2.1.lt
      have hB9 := H5.out.2.2.trans (hB8.mono H5.out.2.2.size)
      have r0 := hr6.cell 0
      have r1 := hr6.cell 1
      have f0 := hr6.frozen 0
      have f1 := hr6.frozen 1
      have hlt := hr6.lt
      simp only [List.getElem?_toArray, List.getElem?_cons_zero, List.getElem?_cons_succ] at r0 r1
      have hbx := HX.out.2.2
      have H9 := hide (And.intro hW (And.intro hB9 (And.intro hr6 hbx)))
      clear hW hB9 hr6 hbx hB8
      go_wp2
      refine ret_at (v := .agg #[.bool rb, .string rs]) (fun W => Blk W bx 46 #[.bool rb, .string rs]) ?_ (fun W h => ?_) rfl ⟨rb, rs, rfl, H9.out.1, ?_⟩
      · exact (H9.out.2.2.1.set_ 0 (.bool rb)).set_ 1 (.string rs)
      · have a0 := h.cell 0
        have a1 := h.cell 1
        simp only [List.getElem?_toArray, List.getElem?_cons_zero, List.getElem?_cons_succ] at a0 a1
        simp [results, Tryz.results38, go_sem, a0, a1]
      · have := H9.out.2.2.2
        exact (H9.out.2.1.setCell (by dsimp only; omega) _).setCell (by dsimp only; omega) _
    · have i1 : (0 : Int) < (m : Int) := by omega
      have hk2 := pow_few4 hval (by omega) hn
      have hst := from_step hown.1.symm hval
      have hmn : m ≤ n := by
        have h2 : 1 * m ≤ 65536 ^ k * m := Nat.mul_le_mul_right _ (Nat.pow_pos (by omega))
        omega
      obtain ⟨r, hr⟩ : ∃ r, r = m % 65536 := ⟨_, rfl⟩
      obtain ⟨q, hq⟩ : ∃ q, q = m / 65536 := ⟨_, rfl⟩
      rw [← hr, ← hq] at hst
      have t1 : (m : Int) % 65536 = (r : Int) := by omega
      have t2 : (m : Int) / 65536 = (q : Int) := by omega
      have hr6 : r < 65536 := by omega
      have hqm : q < m := by omega
      have ur : IntKind.u64.wrap (r : Int) = (r : Int) := u64_in4 (by omega) (by omega)
      have uq : IntKind.u64.wrap (q : Int) = (q : Int) := u64_in4 (by omega) (by omega)
      have HT := hide (And.intro hst (And.intro hok (And.intro hr6 (And.intro hk2 (And.intro hqm hB)))))
      have HO := hide (hown.alloc (.cells (encI r).toArray 3))
      clear hst hok hr hq hk2 hk hB hown hval hm0 hmn hqm
      go_wp2_with (at_builtin; refine wpList_append1 rfl _ _ _ rfl Tryz.underlying23 infoI1 rfl (by omega) encI_len encI_one rfl HO.out V.heap.size 1 r rfl (Blk.new _ _ _) (by unfold maxLen; have := HT.out.2.2.2.1; omega) (by have := HT.out.2.2.2.1; omega) (by simp; omega) ?_; intro g cap w7 hown7 hg7 hB7 hat7 hgb7 hlt7)
      go_roundw
      case rel =>
        obtain ⟨hst, hok, hr6, hk2, hqm, hB⟩ := HT.out
        exact ⟨k + 1, q, out ++ [r], rfl, hown7, okD_snoc hok hr6, hst, by omega, (hB.alloc hzr _).trans hB7⟩
      case measure => have := HT.out.2.2.2.2.1; (simp [intOf]; try omega)
end Go.Proofs.YtelfnmohpjkilaaGreatDoor
