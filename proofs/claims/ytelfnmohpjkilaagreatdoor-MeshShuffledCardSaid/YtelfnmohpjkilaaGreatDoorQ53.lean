/- SamW. -/
import Derived.WalkKit
import Derived.WalkSpells
import Derived.WalkLawsBesides
import Derived.Laws.OwnMore
import Derived.Deep.AppendLies
import Derived.Deep.Draws
import Derived.Maps.AppendAt
import Derived.OwnWalk
import Derived.Sort.Grow
import Derived.Shelf.GgSortFunc.RowK
import Derived.RangeFuncNested
import Derived.RangeFuncBox
import Derived.Test.YtelfnmohpjkilaaGreatDoorRows
import Derived.Handy
import Derived.Deep.QuietTactic
import Derived.BigQuiet
import Derived.LoopN
import Derived.Laws.EntriesVeiled
import Derived.Shelf.SlSortCmp.QuietGrown
import Derived.Deep.RegionHeld3
import Derived.Deep.DrawnRows
import Derived.Sort.Statements
import Derived.Shelf.SlSortCmp.NoneTotal
import Derived.Maps.Own
import Derived.Maps.Views
import Derived.DeepKeys4
import Derived.DeepKeys
import Derived.Laws.StructEq
import Derived.OrdersHeld
import Derived.OrdersIn
import Derived.RangeFuncCalls
import Derived.OwnWalkIn
import Derived.Test.YtelfnmohpjkilaaGreatDoorQ41
import Derived.Test.YtelfnmohpjkilaaGreatDoorQ49
namespace Go.Proofs.YtelfnmohpjkilaaGreatDoor
open Go.RowKit Go.Sort
set_option maxRecDepth 100000 in
set_option maxHeartbeats 2000000 in
theorem eqSl_any (A B : Option Addr) (c d : Nat) (xs ys : List Tri) (w : World) (n1 n2 : Nat) (hx : Sl encT 9 w n1 A xs) (hy : Sl encT 9 w n2 B ys) (hlx : xs.length ≤ 4294967296) (_hly : ys.length ≤ 4294967296) (hfx : ∀ t ∈ xs, fitsT t) (hfy : ∀ t ∈ ys, fitsT t) :
    Calls Tryz.prog 68 #[.slice A xs.length c, .slice B ys.length d] w fun e w' => e = .returned (.bool (decide (xs = ys))) ∧ ∃ k, w' = w.drewN k := by
  go_enter Tryz.func68, Tryz.ntmps68
  by_cases hl : xs.length = ys.length
  · rw [← hl]
    go_wp2
    go_loopw [13] (fun i wr => ∃ k n : Nat, k ≤ xs.length ∧ i = .int .i64 k ∧ xs.take k = ys.take k ∧ wr = w.drewN n) (fun i _ => xs.length - (intOf i).toNat)
    case atStart => exact ⟨0, 0, Nat.zero_le _, rfl, rfl, rfl⟩
    case round =>
      obtain ⟨k, n, hk, rfl, htk, rfl⟩ := hrel
      by_cases hlt : k < xs.length
      · obtain ⟨u, hu⟩ : ∃ u, xs[k]? = some u := ⟨_, List.getElem?_eq_getElem hlt⟩
        obtain ⟨v, hv⟩ : ∃ v, ys[k]? = some v := ⟨_, List.getElem?_eq_getElem (by omega)⟩
        obtain ⟨bA, oA, rfl, _, g0, g1, g2, g3, g4, g5, g6, g7, g8⟩ := hx.tri hu
        obtain ⟨bB, oB, rfl, _, k0, k1, k2, k3, k4, k5, k6, k7, k8⟩ := hy.tri hv
        have hq := eqT u v (hfx u (List.mem_of_getElem? hu)) (hfy v (List.mem_of_getElem? hv))
        have H := hide (And.intro hx (And.intro hy (And.intro hu (And.intro hv (And.intro htk hl)))))
        have i1 : (k : Int) < (xs.length : Int) := by omega
        have i2 : (k : Int) < (ys.length : Int) := by omega
        have i3 : decide (k < ys.length) = true := by simp; omega
        clear hx hy hu hv htk hl
        have htk1 := take_succ_eq H.out.2.2.1 H.out.2.2.2.1 H.out.2.2.2.2.1
        have HT := hide htk1
        clear htk1
        by_cases huv : u = v
        · have hd : decide (u = v) = true := by simp [huv]
          rw [hd] at hq
          have HU := hide huv
          clear huv hd
          go_upto_region 6 with fail
          go_quiet (fail)
          go_wp2
          go_roundw
          case rel => exact ⟨k + 1, n + nq, by omega, by go_num, HT.out.2 HU.out, rfl⟩
          case measure => simp [intOf]; omega
        · have hd : decide (u = v) = false := by simp [huv]
          rw [hd] at hq
          have HU := hide huv
          clear huv hd
          go_upto_region 6 with fail
          go_quiet (fail)
          go_wp2
          go_ret
          refine ⟨?_, n + nq, by simp [World.drewN, Nat.add_assoc]⟩
          have : ¬ xs = ys := fun e => HU.out (HT.out.1 (by rw [e]))
          simp [this]
      · have hke : k = xs.length := by omega
        have i2 : ¬ (k : Int) < (ys.length : Int) := by omega
        have i3 : decide (k < ys.length) = false := by simp; omega
        have hxy : xs = ys := by
          rw [hke, List.take_length, hl, List.take_length] at htk
          exact htk
        have HX := hide hxy
        clear hxy htk hx hy
        go_wp2
        go_ret
        exact ⟨by simp [HX.out], n, rfl⟩
  · have hne : ¬ ((xs.length : Int) = (ys.length : Int)) := by omega
    have hne2 : ¬ xs = ys := fun e => hl (by rw [e])
    have HN := hide hne2
    clear hx hy hne2
    go_wp2
    go_ret
    exact ⟨by simp [HN.out], 0, rfl⟩
set_option maxRecDepth 100000 in
set_option maxHeartbeats 4000000 in
theorem meshSame_any (A B : Option Addr) (c d : Nat) (xs ys : List Tri) (w : World) (hx : Sl encT 9 w w.heap.size A xs) (hy : Sl encT 9 w w.heap.size B ys) (hlx : xs.length ≤ 2147483648) (hly : ys.length ≤ 2147483648) (hfx : ∀ t ∈ xs, fitsT t) (hfy : ∀ t ∈ ys, fitsT t) :
    Calls Tryz.prog 32 #[.slice A xs.length c, .slice B ys.length d] w fun e w' => e = .returned (.bool (decide (canonO xs = canonO ys))) ∧ Below w.heap.size w w' := by
  have k1 := canon_own A c xs w hx (by omega)
  have k2 := fun W (h : Below w.heap.size w W) => canon_own B d ys W ((hy.below h).more h.size) (by omega)
  simp only [canonTO] at k1 k2
  have hcx := canonO_length xs
  have hcy := canonO_length ys
  have hf1 := fitsT_canon hfx
  have hf2 := fitsT_canon hfy
  obtain ⟨M, hM⟩ : ∃ n, n = xs.length := ⟨_, rfl⟩
  obtain ⟨N, hN⟩ : ∃ n, n = ys.length := ⟨_, rfl⟩
  rw [← hM] at k1 hcx hlx ⊢
  simp only [← hN] at k2 hcy hly ⊢
  obtain ⟨CX, hCX⟩ : ∃ l, l = canonO xs := ⟨_, rfl⟩
  obtain ⟨CY, hCY⟩ : ∃ l, l = canonO ys := ⟨_, rfl⟩
  rw [← hCX] at k1 hcx hf1 ⊢
  simp only [← hCY] at k2 hcy hf2 ⊢
  have K := hide (And.intro k1 (And.intro k2 (And.intro hcx (And.intro hcy (And.intro hf1 hf2)))))
  clear k1 k2 hcx hcy hf1 hf2 hM hN hCX hCY hx hy hfx hfy
  go_enter Tryz.func32, Tryz.ntmps32
  by_cases hl : M = N
  · subst hl
    have heq := fun (A1 B1 : Option Addr) (c1 d1 : Nat) W n1 n2 (h1 : Sl encT 9 W n1 A1 CX) (h2 : Sl encT 9 W n2 B1 CY) => eqSl_any A1 B1 c1 d1 CX CY W n1 n2 h1 h2 (by have := K.out.2.2.1; omega) (by have := K.out.2.2.2.1; omega) K.out.2.2.2.2.1 K.out.2.2.2.2.2
    simp only [K.out.2.2.1, K.out.2.2.2.1] at heq
    have HE := hide heq
    clear heq
    go_wp2_with (first
      | (go_at_call 68; refine (HE.out A1 A2 c1 c2 W2 _ _ H2.out.2.1 H2.out.2.2).mono ?_; rintro e W3 ⟨rfl, kd, hw⟩; have H3 := hide (show Below w.heap.size w W3 by rw [hw]; exact below_drewN H2.out.1 kd); clear hw)
      | (go_at_call 30; refine (K.out.2.1 W1 H1.out.1).mono ?_; rintro e W2 ⟨v, rfl, ho, hB⟩; obtain ⟨A2, c2, rfl⟩ := ho.form; have H2 := hide (And.intro (H1.out.1.trans (hB.mono H1.out.1.size)) (And.intro (H1.out.2.below hB) (ho.sl encT_len (Nat.le_refl _)))); clear ho hB)
      | (go_at_call 30; refine K.out.1.mono ?_; rintro e W1 ⟨v, rfl, ho, hB⟩; obtain ⟨A1, c1, rfl⟩ := ho.form; have H1 := hide (And.intro hB (ho.sl encT_len (Nat.le_refl _))); clear ho hB))
    go_ret
    exact ⟨rfl, H3.out⟩
  · have e1 : ((M : Int) == (N : Int)) = false := by simp; omega
    have e2 : ¬ (M : Int) = (N : Int) := by omega
    have hne : decide (CX = CY) = false := decide_eq_false fun e => hl (by rw [← K.out.2.2.1, ← K.out.2.2.2.1, e])
    have HN := hide hne
    clear hne hl
    go_wp2
    go_ret
    exact ⟨by rw [HN.out]; rfl, Below.refl _ w⟩
end Go.Proofs.YtelfnmohpjkilaaGreatDoor
