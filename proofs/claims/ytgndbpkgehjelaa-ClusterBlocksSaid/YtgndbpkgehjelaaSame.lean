/- ref13.Same. -/
import Derived.Test.YtgndbpkgehjelaaEqual
import Derived.Test.YtgndbpkgehjelaaPcs
namespace Go.Proofs.Ytgndbpkgehjelaa
open Go.RowKit
set_option maxHeartbeats 2000000 in
theorem same_any (A B : Option Addr) (c d : Nat) (xs ys : List (List Tri)) (w : World) (n1 n2 : Nat) (hx : LstE encT 9 w n1 A xs) (hy : LstE encT 9 w n2 B ys) (hlx : xs.length ≤ 4294967296) (hly : ys.length ≤ 4294967296)
    (hpx : ∀ p ∈ xs, p.length ≤ 4294967296) (hpy : ∀ p ∈ ys, p.length ≤ 4294967296) (hfx : ∀ p ∈ xs, ∀ t ∈ p, fitsT t) (hfy : ∀ p ∈ ys, ∀ t ∈ p, fitsT t) :
    Calls Try.prog 18 #[.slice A xs.length c, .slice B ys.length d] w fun e w' => e = .returned (.bool (decide (xs = ys))) ∧ ∃ k, w' = w.drewN k := by
  go_enter Try.func18, Try.ntmps18
  by_cases hl : xs.length = ys.length
  · rw [← hl] at hly ⊢
    go_wp2
    go_loopw [5] (fun i wr => ∃ k n : Nat, k ≤ xs.length ∧ i = .int .i64 k ∧ xs.take k = ys.take k ∧ wr = w.drewN n) (fun i _ => xs.length - (intOf i).toNat)
    case atStart => exact ⟨0, 0, Nat.zero_le _, rfl, rfl, rfl⟩
    case round =>
      obtain ⟨k, n, hk, rfl, htk, hwr⟩ := hrel
      by_cases hlt : k < xs.length
      · obtain ⟨u, hu⟩ : ∃ u, xs[k]? = some u := ⟨_, List.getElem?_eq_getElem hlt⟩
        obtain ⟨v, hv⟩ : ∃ v, ys[k]? = some v := ⟨_, List.getElem?_eq_getElem (by omega)⟩
        have hxr : LstE encT 9 wr n1 A xs := by rw [hwr]; exact hx.drewN n
        have hyr : LstE encT 9 wr n2 B ys := by rw [hwr]; exact hy.drewN n
        obtain ⟨bA, oA, A', c', rfl, _, g0, hsA⟩ := hxr.at hu
        obtain ⟨bB, oB, B', d', rfl, _, k0, hsB⟩ := hyr.at hv
        have hul := hpx u (List.mem_of_getElem? hu)
        have hvl := hpy v (List.mem_of_getElem? hv)
        have huf := hfx u (List.mem_of_getElem? hu)
        have hvf := hfy v (List.mem_of_getElem? hv)
        have htk1 := take_succ_eq hu hv htk
        have hE : ∀ j, Calls Try.prog 20 #[.slice A' u.length c', .slice B' v.length d'] (wr.drewN j) fun e w' => e = .returned (.bool (decide (u = v))) ∧ ∃ k, w' = (wr.drewN j).drewN k := fun j => equal_any A' B' c' d' u v _ n1 n2 (hsA.drewN j) (hsB.drewN j) hul hvl huf hvf
        have H := hide (And.intro hx (And.intro hy (And.intro htk1 hwr)))
        have HE := hide hE
        have i1 : (k : Int) < (xs.length : Int) := by omega
        clear hx hy hu hv htk hl hxr hyr hsA hsB htk1 hwr hE huf hvf
        by_cases huv : u = v
        · have hd : decide (u = v) = true := by simp [huv]
          rw [hd] at HE
          have HU := hide huv
          clear huv hd
          go_wp2_with fail
          go_quiet ((go_at_call 20; exact Calls.quiet_of (unhide HE _)))
          go_wp2
          go_roundw
          case rel => exact ⟨k + 1, n + nq, by omega, by go_num, H.out.2.2.1.2 HU.out, by rw [H.out.2.2.2]; simp [World.drewN, Nat.add_assoc]⟩
          case measure => simp [intOf]; omega
        · have hd : decide (u = v) = false := by simp [huv]
          rw [hd] at HE
          have HU := hide huv
          clear huv hd
          go_wp2_with fail
          go_quiet ((go_at_call 20; exact Calls.quiet_of (unhide HE _)))
          go_wp2
          go_ret
          refine ⟨?_, n + nq, by rw [H.out.2.2.2]; simp [World.drewN, Nat.add_assoc]⟩
          have : ¬ xs = ys := fun e => HU.out (H.out.2.2.1.1 (by rw [e]))
          simp [this]
      · have hke : k = xs.length := by omega
        have hxy : xs = ys := by
          rw [hke, List.take_length, hl, List.take_length] at htk
          exact htk
        have HX := hide hxy
        have HW := hide hwr
        clear hxy htk hx hy hwr
        go_wp2
        go_ret
        exact ⟨by simp [HX.out], n, HW.out⟩
  · have hne : ¬ ((xs.length : Int) = (ys.length : Int)) := by omega
    have hne2 : ¬ xs = ys := fun e => hl (by rw [e])
    have HN := hide hne2
    clear hx hy hne2
    go_wp2
    go_ret
    exact ⟨by simp [HN.out], 0, rfl⟩
end Go.Proofs.Ytgndbpkgehjelaa
