/- ref13.SameInts. -/
import Derived.Test.YtgndbpkgehjelaaSame
import Derived.Test.YtgndbpkgehjelaaEncI
namespace Go.Proofs.Ytgndbpkgehjelaa
open Go.RowKit
set_option maxHeartbeats 4000000 in
theorem sameI_any (A B : Option Addr) (c d : Nat) (xs ys : List (List Nat)) (w : World) (n1 n2 : Nat) (hx : LstE encI 1 w n1 A xs) (hy : LstE encI 1 w n2 B ys) (hlx : xs.length ≤ 4294967296) (hly : ys.length ≤ 4294967296)
    (hpx : ∀ p ∈ xs, p.length ≤ 4294967296) (hpy : ∀ p ∈ ys, p.length ≤ 4294967296) :
    Calls Try.prog 26 #[.slice A xs.length c, .slice B ys.length d] w fun e w' => e = .returned (.bool (decide (xs = ys))) ∧ ∃ k, w' = w.drewN k := by
  go_enter Try.func26, Try.ntmps26
  by_cases hl : xs.length = ys.length
  · rw [← hl] at hly ⊢
    go_wp2
    go_loopw [5] (fun i wr => ∃ k n : Nat, k ≤ xs.length ∧ i = .int .i64 k ∧ xs.take k = ys.take k ∧ wr = w.drewN n) (fun i _ => xs.length - (intOf i).toNat)
    case atStart => exact ⟨0, 0, Nat.zero_le _, rfl, rfl, rfl⟩
    case round =>
      obtain ⟨k, n, hk, rfl, htk, hwr⟩ := hrel
      obtain ⟨V, hV⟩ : ∃ V, V = wr := ⟨_, rfl⟩
      rw [← hV] at hwr ⊢
      clear hV
      by_cases hlt : k < xs.length
      · obtain ⟨u, hu⟩ : ∃ u, xs[k]? = some u := ⟨_, List.getElem?_eq_getElem hlt⟩
        obtain ⟨v, hv⟩ : ∃ v, ys[k]? = some v := ⟨_, List.getElem?_eq_getElem (by omega)⟩
        have hxr : LstE encI 1 V n1 A xs := by rw [hwr]; exact hx.drewN n
        have hyr : LstE encI 1 V n2 B ys := by rw [hwr]; exact hy.drewN n
        obtain ⟨bA, oA, A', c', rfl, _, g0, hsA⟩ := hxr.at hu
        obtain ⟨bB, oB, B', d', rfl, _, k0, hsB⟩ := hyr.at hv
        have hul := hpx u (List.mem_of_getElem? hu)
        have hvl := hpy v (List.mem_of_getElem? hv)
        have htk1 := take_succ_eq hu hv htk
        have H := hide (And.intro hx (And.intro hy (And.intro htk1 (And.intro hwr (And.intro hsA hsB)))))
        have i1 : (k : Int) < (xs.length : Int) := by omega
        clear hx hy hu hv htk hl hxr hyr hsA hsB htk1 hwr
        by_cases hle : u.length = v.length
        · rw [← hle] at k0 hvl
          have HLE := hide hle
          clear hle
          go_wp2_with fail
          go_quiet (fail)
          go_wp2
          obtain ⟨X, hX⟩ : ∃ X, X = V.drewN nq := ⟨_, rfl⟩
          have g0X : X.cell? ⟨bA, oA + k, none⟩ = some (.slice A' u.length c') := by rw [hX]; exact g0
          have k0X : X.cell? ⟨bB, oB + k, none⟩ = some (.slice B' u.length d') := by rw [hX]; exact k0
          have hsAX : Sl encI 1 X n1 A' u := by rw [hX]; exact H.out.2.2.2.2.1.drewN nq
          have hsBX : Sl encI 1 X n2 B' v := by rw [hX]; exact H.out.2.2.2.2.2.drewN nq
          rw [← hX]
          have HX := hide (And.intro hX (And.intro hsAX hsBX))
          clear hX hsAX hsBX g0 k0
          go_loopw [6] (fun i wr => ∃ j n' : Nat, j ≤ u.length ∧ i = .int .i64 j ∧ u.take j = v.take j ∧ wr = X.drewN n') (fun i _ => u.length - (intOf i).toNat)
          case atStart => exact ⟨0, 0, Nat.zero_le _, rfl, rfl, rfl⟩
          case round =>
            obtain ⟨j, n', hj, rfl, htj, hwj⟩ := hrel
            have g0Y : wr.cell? ⟨bA, oA + k, none⟩ = some (.slice A' u.length c') := by rw [hwj]; exact g0X
            have k0Y : wr.cell? ⟨bB, oB + k, none⟩ = some (.slice B' u.length d') := by rw [hwj]; exact k0X
            by_cases hjl : j < u.length
            · obtain ⟨x, hxx⟩ : ∃ x, u[j]? = some x := ⟨_, List.getElem?_eq_getElem hjl⟩
              obtain ⟨y, hyy⟩ : ∃ y, v[j]? = some y := ⟨_, List.getElem?_eq_getElem (by have := HLE.out; omega)⟩
              obtain ⟨ba, oa, rfl, _, hca⟩ := HX.out.2.1.at hxx
              obtain ⟨bb, ob, rfl, _, hcb⟩ := HX.out.2.2.at hyy
              have q0 : wr.cell? ⟨ba, oa + j, none⟩ = some (.int .i64 x) := by rw [hwj]; have := hca 0 _ rfl; simpa using this
              have q1 : wr.cell? ⟨bb, ob + j, none⟩ = some (.int .i64 y) := by rw [hwj]; have := hcb 0 _ rfl; simpa using this
              have htj1 := take_succ_eq hxx hyy htj
              have i2 : (j : Int) < (u.length : Int) := by omega
              have HJ := hide (And.intro htj1 hwj)
              clear htj1 hwj hca hcb hxx hyy htj g0X k0X
              by_cases hxy : x = y
              · subst hxy
                go_wp2_with fail
                go_quiet (fail)
                go_wp2
                go_roundw
                case rel => exact ⟨j + 1, n' + nq, by omega, by go_num, HJ.out.1.2 (by trivial), by rw [HJ.out.2]; simp [World.drewN, Nat.add_assoc]⟩
                case measure => simp [intOf]; omega
              · have hxyi : ¬ (x : Int) = (y : Int) := by omega
                have HXY := hide hxy
                clear hxy
                go_wp2_with fail
                go_quiet (fail)
                go_wp2
                go_ret
                refine ⟨?_, _, by rw [HJ.out.2, HX.out.1, H.out.2.2.2.1]; simp [World.drewN, Nat.add_assoc]; rfl⟩
                have : ¬ xs = ys := fun e => HXY.out (HJ.out.1.1 (by rw [H.out.2.2.1.1 (by rw [e])]))
                simp [this]
            · have hje : j = u.length := by omega
              have huv : u = v := by
                rw [hje, List.take_length, HLE.out, List.take_length] at htj
                exact htj
              have HU := hide huv
              have HJ := hide hwj
              clear huv htj hwj hje
              go_wp2
              go_roundw
              case rel => exact ⟨k + 1, n + nq + n', by omega, by go_num, H.out.2.2.1.2 HU.out, by rw [HJ.out, HX.out.1, H.out.2.2.2.1]; simp [World.drewN, Nat.add_assoc]⟩
              case measure => simp [intOf]; omega
        · have hlei : ¬ (u.length : Int) = (v.length : Int) := by omega
          have HLE := hide hle
          clear hle
          go_wp2_with fail
          go_quiet (fail)
          go_wp2
          go_ret
          refine ⟨?_, n + nq, by rw [H.out.2.2.2.1]; simp [World.drewN, Nat.add_assoc]⟩
          have : ¬ xs = ys := fun e => HLE.out (by rw [H.out.2.2.1.1 (by rw [e])])
          simp [this]
      · have hke : k = xs.length := by omega
        have hxy : xs = ys := by
          rw [hke, List.take_length, hl, List.take_length] at htk
          exact htk
        have HX := hide hxy
        have HW := hide hwr
        clear hxy htk hx hy hwr
        go_wp2
        go_ret
        exact ⟨by simp [HX.out], n, HW.out⟩
  · have hne : ¬ ((xs.length : Int) = (ys.length : Int)) := by omega
    have hne2 : ¬ xs = ys := fun e => hl (by rw [e])
    have HN := hide hne2
    clear hx hy hne2
    go_wp2
    go_ret
    exact ⟨by simp [HN.out], 0, rfl⟩
end Go.Proofs.Ytgndbpkgehjelaa
