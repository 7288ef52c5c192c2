/- ref13.quotient, ref13.block. -/
import Derived.Test.YtgndbpkgehjelaaBlk
import Derived.Test.YtgndbpkgehjelaaMod
namespace Go.Proofs.Ytgndbpkgehjelaa
open Go.RowKit
theorem fits_div (c : Int) (k : Nat) (hc : fits c) : fits (c / 2 ^ k) := by
  rcases Nat.eq_zero_or_pos k with h | h
  · subst h; simpa using hc
  · have := div_pow_bound c k h hc
    unfold fits; omega
theorem tmod2 (x : Int) : x.tmod 2 = 0 ∧ x % 2 = 0 ∨ x.tmod 2 = 1 ∧ x % 2 = 1 ∨ x.tmod 2 = -1 ∧ x % 2 = 1 := by
  have h1 := tmod_bound x 2 (by omega)
  have h2 := Int.tmod_def x 2
  omega
theorem tdiv2_even (x : Int) (h : x % 2 = 0) : x.tdiv 2 = x / 2 := by
  have h1 := tmod_bound x 2 (by omega)
  have h2 := Int.tmod_def x 2
  omega
theorem quotient_any (c : Int) (hc : fits c) (b : Nat) (hb : b ≤ 64) (w : World) :
    Calls Try.prog 45 #[.int .i64 c, .int .i64 b] w fun e w' => e = .returned (.int .i64 (c / 2 ^ b)) ∧ w' = w := by
  go_enter Try.func45, Try.ntmps45
  go_wp2
  go_loopw [0, 5] (fun v i wr => ∃ k : Nat, k ≤ b ∧ i = .int .i64 k ∧ v = .int .i64 (c / 2 ^ k) ∧ wr = w) (fun _ i _ => b - (intOf i).toNat)
  case atStart => exact ⟨0, Nat.zero_le _, rfl, by simp, rfl⟩
  case round =>
    obtain ⟨k, hk, rfl, rfl, rfl⟩ := hrel
    by_cases hlt : k < b
    · have i1 : (k : Int) < (b : Int) := by omega
      have hf := fits_div c k hc
      have hnext : c / 2 ^ (k + 1) = c / 2 ^ k / 2 := by
        rw [Int.pow_succ, Int.ediv_ediv_of_nonneg (Int.le_of_lt (Int.pow_pos (by omega)))]
      obtain ⟨x, hx⟩ : ∃ x, x = c / 2 ^ k := ⟨_, rfl⟩
      rw [← hx] at hf hnext ⊢
      obtain ⟨f1, f2⟩ := hf
      have hwx : wrap64 x = x := by unfold wrap64; omega
      have HX := hide (And.intro hx hnext)
      clear hx hnext
      rcases tmod2 x with ⟨h1, h2⟩ | ⟨h1, h2⟩ | ⟨h1, h2⟩
      · have hq : x.tdiv 2 = x / 2 := tdiv2_even x h2
        have hq2 : wrap64 (x / 2) = x / 2 := by unfold wrap64; omega
        go_wp2
        go_roundw
        case rel => exact ⟨k + 1, by omega, by go_num, by rw [HX.out.2], trivial⟩
        case measure => simp [intOf]; omega
      · have hw1 : wrap64 (x - 1) = x - 1 := by unfold wrap64; omega
        have hq : (x - 1).tdiv 2 = x / 2 := by rw [tdiv2_even (x - 1) (by omega)]; omega
        have hq2 : wrap64 (x / 2) = x / 2 := by unfold wrap64; omega
        go_wp2
        go_roundw
        case rel => exact ⟨k + 1, by omega, by go_num, by rw [HX.out.2], trivial⟩
        case measure => simp [intOf]; omega
      · have hw1 : wrap64 (x - 1) = x - 1 := by
          have : x ≠ -9223372036854775808 := fun e => by rw [e] at h2; omega
          unfold wrap64; omega
        have hq : (x - 1).tdiv 2 = x / 2 := by rw [tdiv2_even (x - 1) (by omega)]; omega
        have hq2 : wrap64 (x / 2) = x / 2 := by unfold wrap64; omega
        go_wp2
        go_roundw
        case rel => exact ⟨k + 1, by omega, by go_num, by rw [HX.out.2], trivial⟩
        case measure => simp [intOf]; omega
    · have hke : k = b := by omega
      subst hke
      go_wp2
      go_ret
      exact ⟨rfl, rfl⟩
theorem quotient_anyI (c : Int) (hc : fits c) (b : Int) (h0 : 0 ≤ b) (hb : b ≤ 64) (w : World) :
    Calls Try.prog 45 #[.int .i64 c, .int .i64 b] w fun e w' => e = .returned (.int .i64 (c / 2 ^ b.toNat)) ∧ w' = w := by
  obtain ⟨m, rfl⟩ : ∃ m : Nat, b = m := ⟨b.toNat, by omega⟩
  exact quotient_any c hc m (by omega) w
theorem block13_any (c : Int) (hc : fits c) (b : Int) (h0 : 0 ≤ b) (hb : b ≤ 40) (sh : Bool) (w : World) :
    Calls Try.prog 34 #[.int .i64 c, .int .i64 b, .bool sh] w fun e w' => e = .returned (.int .i64 (blockC c b.toNat sh)) ∧ w' = w := by
  go_enter Try.func34, Try.ntmps34
  cases sh with
  | false =>
    go_wp2_with fail
    refine (quotient_anyI c hc b h0 (by omega) _).mono ?_
    rintro e w1 ⟨rfl, rfl⟩
    go_wp2
    go_ret
    exact ⟨by simp [blockC], rfl⟩
  | true =>
    by_cases hz : b = 0
    · subst hz
      go_wp2_with fail
      refine (quotient_anyI c hc 0 (by omega) (by omega) _).mono ?_
      rintro e w1 ⟨rfl, rfl⟩
      go_wp2
      go_ret
      exact ⟨by simp [blockC], rfl⟩
    · have hbeq : (b == 0) = false := by simp [hz]
      have hw : wrap64 (b - 1) = b - 1 := by unfold wrap64; omega
      have hf := fits_div c (b - 1).toNat hc
      go_wp2_with fail
      refine (quotient_anyI c hc (b - 1) (by omega) (by omega) _).mono ?_
      rintro e w1 ⟨rfl, rfl⟩
      have hval : blockC c b.toNat true = c / 2 ^ (b - 1).toNat / 2 + c / 2 ^ (b - 1).toNat % 2 := by
        have e1 : b.toNat = (b - 1).toNat + 1 := by omega
        unfold blockC
        rw [if_pos ⟨rfl, by omega⟩, e1, Nat.add_sub_cancel, Int.pow_succ, Int.ediv_ediv_of_nonneg (Int.le_of_lt (Int.pow_pos (by omega)))]
      obtain ⟨x, hx⟩ : ∃ x, x = c / 2 ^ (b - 1).toNat := ⟨_, rfl⟩
      rw [← hx] at hf hval ⊢
      have HX := hide (And.intro hx hval)
      clear hx hval
      obtain ⟨f1, f2⟩ := hf
      rcases tmod2 x with ⟨h1, h2⟩ | ⟨h1, h2⟩ | ⟨h1, h2⟩
      · have hq : x.tdiv 2 = x / 2 := tdiv2_even x h2
        have hq2 : wrap64 (x / 2) = x / 2 := by unfold wrap64; omega
        go_wp2
        go_ret
        refine ⟨?_, rfl⟩
        rw [HX.out.2, h2, Int.add_zero]
        rfl
      · go_wp2_with fail
        refine (quotient_anyI x ⟨f1, f2⟩ 1 (by omega) (by omega) _).mono ?_
        rintro e w1 ⟨rfl, rfl⟩
        have hq : wrap64 (x / 2 ^ (1 : Int).toNat + 1) = x / 2 + 1 := by
          show wrap64 (x / 2 ^ 1 + 1) = _
          rw [Int.pow_one]
          unfold wrap64; omega
        go_wp2
        go_ret
        refine ⟨?_, rfl⟩
        rw [HX.out.2, h2]
        rfl
      · go_wp2_with fail
        refine (quotient_anyI x ⟨f1, f2⟩ 1 (by omega) (by omega) _).mono ?_
        rintro e w1 ⟨rfl, rfl⟩
        have hq : wrap64 (x / 2 ^ (1 : Int).toNat + 1) = x / 2 + 1 := by
          show wrap64 (x / 2 ^ 1 + 1) = _
          rw [Int.pow_one]
          unfold wrap64; omega
        go_wp2
        go_ret
        refine ⟨?_, rfl⟩
        rw [HX.out.2, h2]
        rfl
end Go.Proofs.Ytgndbpkgehjelaa
