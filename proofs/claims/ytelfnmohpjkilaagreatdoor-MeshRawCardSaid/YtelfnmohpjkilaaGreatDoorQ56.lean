/- BitP Edge2 Bord Beh Pin Chk Raw Prs Msh9 Args4 Args4D RawW. -/
import Derived.WalkKit
import Derived.WalkSpells
import Derived.WalkLawsBesides
import Derived.Laws.OwnMore
import Derived.Deep.AppendLies
import Derived.Deep.Draws
import Derived.Maps.AppendAt
import Derived.OwnWalk
import Derived.Sort.Grow
import Derived.Shelf.GgSortFunc.RowK
import Derived.RangeFuncNested
import Derived.RangeFuncBox
import Derived.OrdersHeld
import Derived.OrdersIn
import Derived.RangeFuncCalls
import Derived.OwnWalkIn
import Derived.Test.YtelfnmohpjkilaaGreatDoorRows
import Derived.Carry
import Derived.OpenShut
import Derived.ProofKit
import Derived.ChangeSame
import Derived.Handy
import Derived.Deep.Slices
import Derived.Test.YtelfnmohpjkilaaGreatDoorProg
import Derived.Deep.QuietTactic
import Derived.BigQuiet
import Derived.LoopN
import Derived.Laws.EntriesVeiled
import Derived.Shelf.SlSortCmp.QuietGrown
import Derived.Deep.RegionHeld3
import Derived.Deep.DrawnRows
import Derived.Sort.Statements
import Derived.Shelf.SlSortCmp.NoneTotal
import Derived.Maps.Own
import Derived.Maps.Views
import Derived.DeepKeys4
import Derived.DeepKeys
import Derived.Laws.StructEq
import Derived.Deep.CutBlock
import Derived.Deep.DeepCutAuto
import Derived.StillTailTactics
import Derived.IntWalk
import Derived.Deep.WholeRow
import Derived.Great.BuildSlice
import Derived.Great.Walk
import Derived.Maps.OwnSet
import Derived.Maps.RangeWalk
import Derived.WideKeyEntry
import Derived.Deep.MidRow
import Derived.Shelf.RegionOpen
import Derived.Test.YtelfnmohpjkilaaGreatDoorQ34
import Derived.Test.YtelfnmohpjkilaaGreatDoorQ36
import Derived.Test.YtelfnmohpjkilaaGreatDoorQ50
import Derived.Test.YtelfnmohpjkilaaGreatDoorQ52
namespace Go.Proofs.YtelfnmohpjkilaaGreatDoor
open Go.RowKit
theorem and_15 (x : Int) : bits .and .i64 x 15 = x % 16 := by
  have e : (BitVec.ofInt IntKind.i64.bits 15) = (15#64) := rfl
  have h : (BitVec.ofInt IntKind.i64.bits x &&& BitVec.ofInt IntKind.i64.bits 15).toNat = (x % 16).toNat := by
    rw [BitVec.toNat_and, e]
    show (BitVec.ofInt 64 x).toNat &&& (2 ^ 4 - 1) = _
    rw [BitVec.toNat_ofInt, Nat.and_two_pow_sub_one_eq_mod]
    omega
  show IntKind.i64.wrap ((BitVec.ofInt IntKind.i64.bits x &&& BitVec.ofInt IntKind.i64.bits 15).toNat : Nat) = _
  rw [h, IntWalk.i64_in _ (by omega)]
  omega
end Go.Proofs.YtelfnmohpjkilaaGreatDoor
namespace Go.Proofs.YtelfnmohpjkilaaGreatDoor
open Go.RowKit Go.Sort
set_option maxRecDepth 100000 in
set_option maxHeartbeats 8000000 in
theorem lessEdge_any (a b : Ed) (w : World) (ha : fitsE a) (hb : fitsE b) :
    Calls Tryz.prog 55 #[vE a, vE b] w fun r w' => r = .returned (.bool (ltE a b)) ∧ Lay w w' := by
  have heq := eqP a.1 b.1 ha.1 hb.1
  have hlt : ltE a b = if a.1 = b.1 then ltP a.2 b.2 else ltP a.1 b.1 := rfl
  clear ha hb
  by_cases he : a.1 = b.1
  · have hd : decide (a.1 = b.1) = true := decide_eq_true he
    rw [hd] at heq
    rw [if_pos he] at hlt
    rw [hlt]
    clear he hd hlt
    go_enter Tryz.func55, Tryz.ntmps55
    go_wp2_with (go_at_call 83; refine (rless_any a.2 b.2 _).mono ?_; rintro e w3 ⟨rfl, hL⟩)
    go_ret
    exact ⟨rfl, (((Lay.refl _).alloc _).alloc _).trans hL⟩
  · have hd : decide (a.1 = b.1) = false := decide_eq_false he
    rw [hd] at heq
    rw [if_neg he] at hlt
    rw [hlt]
    clear he hd hlt
    go_enter Tryz.func55, Tryz.ntmps55
    go_wp2_with (go_at_call 83; refine (rless_any a.1 b.1 _).mono ?_; rintro e w3 ⟨rfl, hL⟩)
    go_ret
    exact ⟨rfl, (((Lay.refl _).alloc _).alloc _).trans hL⟩
end Go.Proofs.YtelfnmohpjkilaaGreatDoor
namespace Go.Proofs.YtelfnmohpjkilaaGreatDoor
open Go.RowKit Go.Sort
theorem atE_eq {l : List Ed} {p : Ed} {a : Nat} (ha : a ≤ l.length) (hlo : ∀ j q, j < a → l[j]? = some q → ltE q p = true) (hhi : ∀ q, l[a]? = some q → ltE q p = false) : a = atE l p := by
  unfold atE
  induction l generalizing a with
  | nil => simpa using ha
  | cons x l ih =>
    cases a with
    | zero =>
      have := hhi x rfl
      simp [this]
    | succ a =>
      have h0 := hlo 0 x (by omega) rfl
      rw [List.takeWhile_cons, h0, if_pos rfl, List.length_cons]
      rw [← ih (a := a) (by simpa using ha) (fun j q hj hq => hlo (j + 1) q (by omega) (by simpa using hq)) (fun q hq => hhi q (by simpa using hq))]
theorem insE_mem {l : List Ed} {e x : Ed} (h : x ∈ insE l e) : x ∈ l ∨ x = e := by
  unfold insE at h
  rcases List.mem_append.1 h with h | h
  · exact .inl (List.mem_of_mem_take h)
  · rcases List.mem_cons.1 h with h | h
    · exact .inr h
    · exact .inl (List.mem_of_mem_drop h)
theorem bord_snoc (all : List Ed) (k : Nat) (e : Ed) (h : all[k]? = some e) : (all.take (k + 1)).foldl (bordS all) [] = bordS all ((all.take k).foldl (bordS all) []) e := by
  rw [List.take_add_one, h, Option.toList_some, List.foldl_append]
  rfl
/-- What the outer loop has. -/
structure BdS (w0 : Nat) (w wr : World) (ab : Nat) (all out : List Ed) (A' : Option Addr) (lo c' : Nat) : Prop where
  len : lo = out.length
  sl : Sl encE 6 wr wr.heap.size A' out
  cap : lo ≤ c'
  fit : ∀ x ∈ out, fitsE x
  bel : Below w0 w wr
  big : ab ≤ wr.heap.size
theorem BdS.step {w0 : Nat} {w wr w2 : World} {ab : Nat} {all out : List Ed} {A' : Option Addr} {lo c' : Nat} (h : BdS w0 w wr ab all out A' lo c') (hB : Below wr.heap.size wr w2) (h0 : w0 ≤ ab := by omega) : BdS w0 w w2 ab all out A' lo c' :=
  ⟨h.len, (h.sl.below hB).more hB.size, h.cap, h.fit, h.bel.trans (hB.mono (by have := h.big; omega)), by have := h.big; have := hB.size; omega⟩
set_option maxRecDepth 100000 in
set_option maxHeartbeats 8000000 in
theorem border_any (A : Option Addr) (c : Nat) (ts : List Tri) (w : World) (hs : Sl encT 9 w w.heap.size A ts) (hl : ts.length ≤ 1073741824) (hf : ∀ t ∈ ts, fitsT t) :
    Calls Tryz.prog 23 #[.slice A ts.length c] w fun e w' => ∃ A' c', e = .returned (.slice A' (borderP ts).length c') ∧ Sl encE 6 w' w'.heap.size A' (borderP ts) ∧ (borderP ts).length ≤ c' ∧ Below w.heap.size w w' := by
  have hed := edges_any A c ts w hs hl
  have hfe := edgesP_fits hf
  have hle := edgesP_length ts
  obtain ⟨all, hall⟩ : ∃ all, all = edgesP ts := ⟨_, rfl⟩
  have hbp : borderP ts = all.foldl (bordS all) [] := by unfold borderP bordP; rw [hall]
  rw [← hall] at hed hfe hle
  obtain ⟨B, hB⟩ : ∃ B, B = borderP ts := ⟨_, rfl⟩
  rw [← hB] at hbp ⊢
  obtain ⟨n, hn⟩ : ∃ n, n = all.length := ⟨_, rfl⟩
  rw [← hn] at hle hed
  have hnb : n ≤ 3221225472 := by omega
  obtain ⟨tl, htl⟩ : ∃ tl, tl = ts.length := ⟨_, rfl⟩
  rw [← htl] at hed ⊢
  have HS := hide (And.intro hed (And.intro hfe (And.intro hbp hn)))
  clear hs hf hed hfe hbp hall hB hle hn htl hl
  go_enter Tryz.func23, Tryz.ntmps23
  go_wp2_with fail
  refine HS.out.1.mono ?_
  rintro e w1 ⟨v1, rfl, hown1, hB1⟩
  obtain ⟨A1, c1, rfl⟩ := hown1.form
  have hz1 := hB1.size
  have H1 := hide (And.intro (hown1.sl encE_len (Nat.le_refl _)) hB1)
  clear hown1 hB1
  go_wp2
  go_loopw [4, 5] (fun v iv wr => ∃ (k : Nat) (A' : Option Addr) (lo c' : Nat), k ≤ n ∧ iv = .int .i64 k ∧ v = .slice A' lo c' ∧ lo ≤ k ∧ BdS w1.heap.size w1 wr w1.heap.size all ((all.take k).foldl (bordS all) []) A' lo c') (fun _ iv _ => n - (intOf iv).toNat)
  case atStart => exact ⟨0, none, 0, 0, by omega, rfl, rfl, by omega, ⟨rfl, .inl ⟨rfl, rfl⟩, Nat.le_refl _, fun x hx => absurd hx (by simp), Below.refl _ w1, Nat.le_refl _⟩⟩
  case round =>
    obtain ⟨V0, rfl⟩ : ∃ V0, V0 = wr := ⟨_, rfl⟩
    obtain ⟨k, A2, lo, c2, hk, rfl, rfl, hlo, hI⟩ := hrel
    obtain ⟨out, hout⟩ : ∃ out, out = (all.take k).foldl (bordS all) [] := ⟨_, rfl⟩
    rw [← hout] at hI
    have hzr := hI.big
    by_cases hlt : k < n
    · obtain ⟨x, hx⟩ : ∃ x, all[k]? = some x := ⟨_, List.getElem?_eq_getElem (by rw [← HS.out.2.2.2]; exact hlt)⟩
      have i1 : (k : Int) < (n : Int) := by omega
      have hfx := HS.out.2.1 x (List.mem_of_getElem? hx)
      have hsn := bord_snoc all k x hx
      rw [← hout] at hsn
      have hsa : Sl encE 6 V0 w1.heap.size A1 all := H1.out.1.below hI.bel
      obtain ⟨b, o, hA, hb, _⟩ := hsa.at hx
      subst hA
      obtain ⟨g0, g1, g2, g3, g4, g5⟩ := hsa.ed hx
      obtain ⟨X, hX⟩ : ∃ X, X = V0.alloc (.cells #[.int .i64 x.1.1, .int .i64 x.1.2.1, .int .i64 x.1.2.2, .int .i64 x.2.1, .int .i64 x.2.2.1, .int .i64 x.2.2.2] 62) := ⟨_, rfl⟩
      have hBX : Below V0.heap.size V0 X := by rw [hX]; exact (Below.refl _ V0).alloc (Nat.le_refl _) _
      have hbx : Blk X V0.heap.size 62 (encE x).toArray := by rw [hX]; exact Blk.new _ _ _
      have hzX : X.heap.size = V0.heap.size + 1 := by rw [hX]; simp
      have hc1 := count_any (some ⟨b, o, none⟩) c1 all (swapE x) X ((hsa.below (hBX.mono hzr)).more (by omega)) (by rw [← HS.out.2.2.2]; omega) ⟨hfx.2, hfx.1⟩ HS.out.2.1
      have hc2 := fun W (hW : Below X.heap.size X W) => count_any A2 c2 out x W (((hI.sl.below hBX).below (hW.mono (by omega))).more (by have := hW.size; omega)) (by rw [← hI.len]; omega) hfx hI.fit
      rw [← HS.out.2.2.2] at hc1
      rw [← hI.len] at hc2
      obtain ⟨m1, hm1⟩ : ∃ m, m = cntE all (swapE x) := ⟨_, rfl⟩
      obtain ⟨m2, hm2⟩ : ∃ m, m = cntE out x := ⟨_, rfl⟩
      rw [← hm1] at hc1
      rw [← hm2] at hc2
      have hbs : bordS all out x = if 0 < m1 ∨ 0 < m2 then out else insE out x := by unfold bordS; rw [← hm1, ← hm2]
      have HK := hide (And.intro hI (And.intro hc1 (And.intro hc2 (And.intro (hsn.trans hbs) (And.intro hBX (And.intro hbx (And.intro hX hfx)))))))
      clear hI hc1 hc2 hsn hsa hbs hBX hbx hfx hx hm1 hm2 hX
      go_wp2_with fail
      rw [← HK.out.2.2.2.2.2.2.1]
      obtain ⟨y0, y1, y2, y3, y4, y5⟩ := HK.out.2.2.2.2.2.1.six
      refine HK.out.2.1.mono ?_
      rintro e w2 ⟨rfl, hB2⟩
      have hz2 := hB2.size
      obtain ⟨u0, u1, u2, u3, u4, u5⟩ := (HK.out.2.2.2.2.2.1.below hB2 (by omega)).six
      have HB2 := hide hB2
      clear hB2 y0 y1 y2 y3 y4 y5 g0 g1 g2 g3 g4 g5
      by_cases h1 : 0 < m1
      · have j1 : (0 : Int) < (m1 : Int) := by omega
        go_wp2
        go_roundw
        case rel =>
          refine ⟨k + 1, A2, lo, c2, by omega, by go_num, rfl, by omega, ?_⟩
          have he := HK.out.2.2.2.1
          rw [if_pos (.inl h1)] at he
          rw [he]
          exact HK.out.1.step (HK.out.2.2.2.2.1.trans (HB2.out.mono (by omega)))
        case measure => simp [intOf]; omega
      · have h10 : m1 = 0 := by omega
        subst h10
        go_wp2_with fail
        refine (HK.out.2.2.1 _ HB2.out).mono ?_
        rintro e w3 ⟨rfl, hB3⟩
        have hz3 := hB3.size
        have hB23 : Below V0.heap.size V0 w3 := HK.out.2.2.2.2.1.trans ((HB2.out.mono (by omega)).trans (hB3.mono (by omega)))
        have hb3 := (HK.out.2.2.2.2.2.1.below HB2.out (by omega)).below hB3 (by omega)
        obtain ⟨x0, x1, x2, x3, x4, x5⟩ := hb3.six
        have HB3 := hide (And.intro hB23 hb3)
        clear hB3 hB23 hb3 u0 u1 u2 u3 u4 u5
        by_cases h2 : 0 < m2
        · have j2 : (0 : Int) < (m2 : Int) := by omega
          go_wp2
          go_roundw
          case rel =>
            refine ⟨k + 1, A2, lo, c2, by omega, by go_num, rfl, by omega, ?_⟩
            have he := HK.out.2.2.2.1
            rw [if_pos (.inr h2)] at he
            rw [he]
            exact HK.out.1.step HB3.out.1
          case measure => simp [intOf]; omega
        · have h20 : m2 = 0 := by omega
          subst h20
          have hI3 := HK.out.1.step HB3.out.1
          have he := HK.out.2.2.2.1
          rw [if_neg (by omega)] at he
          have H3 := hide (And.intro hI3 he)
          clear hI3 he h1 h2
          go_upto_block 2 with fail
          go_cut [7] (fun a wx => ∃ a' : Nat, a = .int .i64 a' ∧ a' ≤ lo ∧ (∀ j q, j < a' → out[j]? = some q → ltE q x = true) ∧ (∀ q, out[a']? = some q → ltE q x = false) ∧ RB w3 wx)
          case first =>
            go_wp2_with fail
            go_loopw [7] (fun a wx => ∃ a' : Nat, a = .int .i64 a' ∧ a' ≤ lo ∧ (∀ j q, j < a' → out[j]? = some q → ltE q x = true) ∧ RB w3 wx) (fun a _ => lo - (intOf a).toNat)
            case atStart => exact ⟨0, rfl, Nat.zero_le _, fun j q h => absurd h (by omega), RB.refl _⟩
            case round =>
              obtain ⟨a, rfl, ha, hlt3, hR⟩ := hrel
              have hszR := hR.size
              have hbx := HB3.out.2.below hR HB3.out.2.lt
              by_cases hla : a < lo
              · obtain ⟨q, hq⟩ : ∃ q, out[a]? = some q := ⟨_, List.getElem?_eq_getElem (by rw [← H3.out.1.len]; exact hla)⟩
                have hfq := H3.out.1.fit q (List.mem_of_getElem? hq)
                obtain ⟨bp, op, hAp, hbp, _⟩ := (H3.out.1.sl.below hR).at hq
                subst hAp
                obtain ⟨k0, k1, k2, k3, k4, k5⟩ := (H3.out.1.sl.below hR).ed hq
                obtain ⟨x0, x1, x2, x3, x4, x5⟩ := hbx.six
                have hbpR : bp < wr.heap.size := by omega
                have hbxR := hbx.lt
                have i2 : (a : Int) < (lo : Int) := by omega
                have HL := hide (And.intro hlt3 (And.intro hR hq))
                clear hlt3 hR hq hbx
                cases hless : ltE q x
                · have HLS := hide hless
                  go_wp2_with fail
                  go_region_held3 (fun w' => w'.cell? ⟨bp, op + a * 6, none⟩ = some (.int .i64 q.1.1) ∧ w'.cell? ⟨bp, op + a * 6 + 1, none⟩ = some (.int .i64 q.1.2.1) ∧ w'.cell? ⟨bp, op + a * 6 + 2, none⟩ = some (.int .i64 q.1.2.2) ∧ w'.cell? ⟨bp, op + a * 6 + 3, none⟩ = some (.int .i64 q.2.1) ∧ w'.cell? ⟨bp, op + a * 6 + 4, none⟩ = some (.int .i64 q.2.2.1) ∧ w'.cell? ⟨bp, op + a * 6 + 5, none⟩ = some (.int .i64 q.2.2.2) ∧ w'.cell? ⟨V0.heap.size, 0, none⟩ = some (.int .i64 x.1.1) ∧ w'.cell? ⟨V0.heap.size, 1, none⟩ = some (.int .i64 x.1.2.1) ∧ w'.cell? ⟨V0.heap.size, 2, none⟩ = some (.int .i64 x.1.2.2) ∧ w'.cell? ⟨V0.heap.size, 3, none⟩ = some (.int .i64 x.2.1) ∧ w'.cell? ⟨V0.heap.size, 4, none⟩ = some (.int .i64 x.2.2.1) ∧ w'.cell? ⟨V0.heap.size, 5, none⟩ = some (.int .i64 x.2.2.2)) (first | go_keep | exact ⟨cell_lay hL k0, cell_lay hL k1, cell_lay hL k2, cell_lay hL k3, cell_lay hL k4, cell_lay hL k5, cell_lay hL x0, cell_lay hL x1, cell_lay hL x2, cell_lay hL x3, cell_lay hL x4, cell_lay hL x5⟩) ((go_at_call 55; refine (lessEdge_any q x _ hfq HK.out.2.2.2.2.2.2.2).mono ?_; rintro e w3 ⟨rfl, hL⟩; rw [hless]))
                  go_wp2_with fail
                  go_meet
                  case rel =>
                    refine ⟨a, rfl, ha, HL.out.1, fun q' hq' => ?_, HL.out.2.1.trans _ _ _ ((below_drew wr).trans hL.below)⟩
                    rw [HL.out.2.2] at hq'
                    cases hq'
                    exact HLS.out
                · have HLS := hide hless
                  go_wp2_with fail
                  go_region_held3 (fun w' => w'.cell? ⟨bp, op + a * 6, none⟩ = some (.int .i64 q.1.1) ∧ w'.cell? ⟨bp, op + a * 6 + 1, none⟩ = some (.int .i64 q.1.2.1) ∧ w'.cell? ⟨bp, op + a * 6 + 2, none⟩ = some (.int .i64 q.1.2.2) ∧ w'.cell? ⟨bp, op + a * 6 + 3, none⟩ = some (.int .i64 q.2.1) ∧ w'.cell? ⟨bp, op + a * 6 + 4, none⟩ = some (.int .i64 q.2.2.1) ∧ w'.cell? ⟨bp, op + a * 6 + 5, none⟩ = some (.int .i64 q.2.2.2) ∧ w'.cell? ⟨V0.heap.size, 0, none⟩ = some (.int .i64 x.1.1) ∧ w'.cell? ⟨V0.heap.size, 1, none⟩ = some (.int .i64 x.1.2.1) ∧ w'.cell? ⟨V0.heap.size, 2, none⟩ = some (.int .i64 x.1.2.2) ∧ w'.cell? ⟨V0.heap.size, 3, none⟩ = some (.int .i64 x.2.1) ∧ w'.cell? ⟨V0.heap.size, 4, none⟩ = some (.int .i64 x.2.2.1) ∧ w'.cell? ⟨V0.heap.size, 5, none⟩ = some (.int .i64 x.2.2.2)) (first | go_keep | exact ⟨cell_lay hL k0, cell_lay hL k1, cell_lay hL k2, cell_lay hL k3, cell_lay hL k4, cell_lay hL k5, cell_lay hL x0, cell_lay hL x1, cell_lay hL x2, cell_lay hL x3, cell_lay hL x4, cell_lay hL x5⟩) ((go_at_call 55; refine (lessEdge_any q x _ hfq HK.out.2.2.2.2.2.2.2).mono ?_; rintro e w3 ⟨rfl, hL⟩; rw [hless]))
                  go_wp2_with fail
                  go_roundw
                  case rel =>
                    refine ⟨a + 1, by go_num, by omega, fun j q' hj hq' => ?_, HL.out.2.1.trans _ _ _ ((below_drew wr).trans hL.below)⟩
                    rcases Nat.lt_or_ge j a with h | h
                    · exact HL.out.1 j q' h hq'
                    · have hja : j = a := by omega
                      subst hja
                      rw [HL.out.2.2] at hq'
                      cases hq'
                      exact HLS.out
                  case measure => simp [intOf]; omega
              · have hae : a = lo := by omega
                have HL := hide (And.intro hlt3 (And.intro hR hae))
                clear hlt3 hR hbx hae
                go_wp2_with fail
                go_meet
                case rel => exact ⟨a, rfl, ha, HL.out.1, (fun q' hq' => by rw [HL.out.2.2, H3.out.1.len, List.getElem?_eq_none (Nat.le_refl _)] at hq'; cases hq'), HL.out.2.1⟩
          case rest =>
            obtain ⟨a, rfl, ha, hlo', hhi, hR⟩ := hcut
            have hat : a = atE out x := atE_eq (by rw [← H3.out.1.len]; exact ha) hlo' hhi
            have hI4 := H3.out.1.step hR
            have hb4 := HB3.out.2.below hR HB3.out.2.lt
            have hzc := hR.size
            obtain ⟨x0', x1', x2', x3', x4', x5'⟩ := hb4.six
            obtain ⟨W, hW⟩ : ∃ W, W = wc := ⟨_, rfl⟩
            rw [← hW] at hI4 hb4 hzc hR x0' x1' x2' x3' x4' x5' ⊢
            have hzW1 := hb4.lt
            have hzW2 := hI4.big
            have hc2 := hI4.cap
            have hln := hI4.len
            have hta : (out.take a).length = a := by rw [List.length_take]; omega
            have htd : (out.drop a).length = lo - a := by rw [List.length_drop, ← hln]
            have hrunH : ∀ V : World, (Instr.slice 37 (.slice A2 lo c2) none (some (.int .i64 a)) none).run Tryz.prog V = .ok (.slice A2 a c2) V := fun V => run_cutH Tryz.underlying37 Tryz.sizeOf62 ha hc2 V
            have hrunL : ∀ V : World, (Instr.slice 37 (.slice A2 lo c2) (some (.int .i64 a)) none none).run Tryz.prog V = .ok (.slice (cutA A2 c2 a 6) (lo - a) (c2 - a)) V := fun V => run_cut Tryz.underlying37 Tryz.sizeOf62 ha V
            have hslT : Sl encE 6 W W.heap.size A2 (out.take a) := hI4.sl.take8 a
            have hslD : Sl encE 6 W W.heap.size (cutA A2 c2 a 6) (out.drop a) := hI4.sl.cut (by rw [← hln]; exact ha) (by rw [← hln]; exact hc2)
            have HT := hide (And.intro hslT (And.intro hslD (And.intro hta (And.intro htd (And.intro hI4 (And.intro hb4 (And.intro hat hln)))))))
            clear hI4 hb4 hslT hslD hta htd hR hlo' hhi hat hW hln
            go_upto_region 15 with (at_builtin; refine wpList_appendS rfl _ _ _ rfl Tryz.underlying37 infoE rfl (by omega) encE_len encE_one rfl (Own.nil (base := W.heap.size)) A2 c2 W.heap.size (out.take a) (by rw [HT.out.2.2.1]; rfl) HT.out.1 (by rw [HT.out.2.2.1]; unfold maxLen; omega) (by rw [HT.out.2.2.1]; omega) (Nat.le_refl _) ?_; intro v1 w4 hown4 hg1 hB4 hat1; rw [HT.out.2.2.1, Nat.zero_add, List.nil_append] at hown4; obtain ⟨A4, c4, rfl⟩ := hown4.form)
            have y0 := (hB4.cell (p := ⟨V0.heap.size, 0, none⟩) hzW1).trans x0'
            have y1 := (hB4.cell (p := ⟨V0.heap.size, 1, none⟩) hzW1).trans x1'
            have y2 := (hB4.cell (p := ⟨V0.heap.size, 2, none⟩) hzW1).trans x2'
            have y3 := (hB4.cell (p := ⟨V0.heap.size, 3, none⟩) hzW1).trans x3'
            have y4 := (hB4.cell (p := ⟨V0.heap.size, 4, none⟩) hzW1).trans x4'
            have y5 := (hB4.cell (p := ⟨V0.heap.size, 5, none⟩) hzW1).trans x5'
            have HO1 := hide (And.intro hown4 hB4)
            have hz4 := hB4.size
            have hown4' := hown4.alloc (.cells #[.int .i64 x.1.1, .int .i64 x.1.2.1, .int .i64 x.1.2.2, .int .i64 x.2.1, .int .i64 x.2.2.1, .int .i64 x.2.2.2] 62)
            clear hown4 hg1 hB4 hat1 x0' x1' x2' x3' x4' x5'
            go_upto_region 16 with (at_builtin; refine wpList_append1 rfl _ _ _ rfl Tryz.underlying37 infoE rfl (by omega) encE_len encE_one rfl hown4' w4.heap.size 1 x rfl (Blk.new _ _ _) (by unfold maxLen; omega) (by omega) (by simp; omega) ?_; intro g2' cap2 w5 hown5 hg2' hB5 hat2 hgb2 hlt2)
            have hB15 : Below W.heap.size W w5 := HO1.out.2.trans (((Below.refl _ w4).alloc (by omega) _).trans hB5)
            have hz5 := hB15.size
            have HO2 := hide (And.intro hown5 (And.intro hB15 ((HT.out.2.1.below hB15))))
            clear hown5 hg2' hB5 hat2 hown4' hB15 y0 y1 y2 y3 y4 y5
            go_wp2_with (at_builtin; refine wpList_appendS rfl _ _ _ rfl Tryz.underlying37 infoE rfl (by omega) encE_len encE_one rfl HO2.out.1 (cutA A2 c2 a 6) (c2 - a) W.heap.size (out.drop a) (by rw [HT.out.2.2.2.1]; rfl) HO2.out.2.2 (by rw [HT.out.2.2.2.1]; unfold maxLen; omega) (by rw [HT.out.2.2.2.1]; omega) hz5 ?_; intro v6 w6 hown6 hg6 hB6 hat6; obtain ⟨A6, c6, rfl⟩ := hown6.form)
            go_roundw
            case rel =>
              have hln := HT.out.2.2.2.2.2.2.2
              rw [List.append_assoc, List.singleton_append, HT.out.2.2.2.1] at hown6
              have hins : out.take a ++ (x :: out.drop a) = insE out x := by unfold insE; rw [← HT.out.2.2.2.2.2.2.1]
              rw [hins] at hown6
              refine ⟨k + 1, A6, _, c6, by omega, by go_num, rfl, ?_, ?_⟩
              · rw [← hout, ← hln]; omega
              · rw [← hout, ← hln, H3.out.2]
                have hB6' : Below w1.heap.size w1 w6 := HT.out.2.2.2.2.1.bel.trans ((HO2.out.2.1.mono (by omega)).trans (hB6.mono (by omega)))
                refine ⟨hown6.1, hown6.sl encE_len (Nat.le_refl _), hown6.place.1, fun y hy => ?_, hB6', hB6'.size⟩
                rcases insE_mem hy with h | h
                · exact HT.out.2.2.2.2.1.fit y h
                · rw [h]; exact HK.out.2.2.2.2.2.2.2
            case measure => simp [intOf]; omega
    · have hke : k = all.length := by rw [← HS.out.2.2.2]; omega
      rw [hke, List.take_length, ← HS.out.2.2.1] at hout
      have hkn : n = k := by omega
      rw [hout] at hI
      have HE := hide hI
      clear hI hout hke
      subst hkn
      go_wp2
      go_ret
      exact ⟨A2, c2, by rw [← HE.out.len]; rfl, HE.out.sl, by rw [← HE.out.len]; exact HE.out.cap, H1.out.2.trans (HE.out.bel.mono hz1)⟩
end Go.Proofs.YtelfnmohpjkilaaGreatDoor
namespace Go.Proofs.YtelfnmohpjkilaaGreatDoor
open Go.RowKit Go.Sort
theorem behK_at {t : Tri} {p q : Pt} (j : Nat) (hj : j < 3) (h1 : corner t j = p) (h2 : corner t ((j + 1) % 3) = q) (hn : ∀ i, i < j → ¬(corner t i = p ∧ corner t ((i + 1) % 3) = q)) : behK t p q = some (corner t ((j + 2) % 3)) := by
  unfold behK
  have hc : j = 0 ∨ j = 1 ∨ j = 2 := by omega
  rcases hc with rfl | rfl | rfl
  · exact if_pos ⟨h1, h2⟩
  · exact (if_neg (hn 0 (by omega))).trans (if_pos ⟨h1, h2⟩)
  · exact (if_neg (hn 0 (by omega))).trans ((if_neg (hn 1 (by omega))).trans (if_pos ⟨h1, h2⟩))
theorem noJ_succ {t : Tri} {p q : Pt} {j : Nat} (hn : ∀ i, i < j → ¬(corner t i = p ∧ corner t ((i + 1) % 3) = q)) (h : ¬(corner t j = p ∧ corner t ((j + 1) % 3) = q)) : ∀ i, i < j + 1 → ¬(corner t i = p ∧ corner t ((i + 1) % 3) = q) := fun i hi => by
  rcases Nat.lt_or_ge i j with h1 | h1
  · exact hn i h1
  · have e : i = j := by omega
    rw [e]; exact h
theorem findSome_take {α β : Type} (f : α → Option β) (l : List α) (k : Nat) (x : α) (h : l[k]? = some x) : (l.take (k + 1)).findSome? f = ((l.take k).findSome? f).or (f x) := by
  rw [List.take_add_one, h, Option.toList_some, List.findSome?_append]
  simp [List.findSome?_cons]
  cases f x <;> rfl
theorem bh_some {l : List Tri} {p q r : Pt} {k : Nat} {t : Tri} (h : l[k]? = some t) (hn : behP (l.take k) p q = none) (hb : behK t p q = some r) : behP l p q = some r := by
  have h1 : behP (l.take (k + 1)) p q = some r := by
    unfold behP at hn ⊢
    rw [findSome_take _ _ _ _ h, hn, hb]; rfl
  unfold behP at h1 ⊢
  rw [← List.take_append_drop (k + 1) l, List.findSome?_append, h1]
  rfl
/-- Where the boxes lie. -/
structure BhX (w X : World) (p q : Pt) : Prop where
  bel : Below w.heap.size w X
  bp : Blk X w.heap.size 41 #[.int .i64 p.1, .int .i64 p.2.1, .int .i64 p.2.2]
  bq : Blk X (w.heap.size + 1) 41 #[.int .i64 q.1, .int .i64 q.2.1, .int .i64 q.2.2]
  br : Blk X (w.heap.size + 1 + 1) 41 #[.int .i64 0, .int .i64 0, .int .i64 0]
theorem beh_ret {w X : World} {p q r : Pt} {b : Bool} {fn : Func} {R : Ending → World → Prop} {a : Act} {w' : World} (hd : a.defers = []) (h : BhX w X p q) (m : Nat)
    (hr : ∀ Z : World, Z.cell? ⟨w.heap.size + 1 + 1, 0, none⟩ = some (.int .i64 r.1) → Z.cell? ⟨w.heap.size + 1 + 1, 1, none⟩ = some (.int .i64 r.2.1) → Z.cell? ⟨w.heap.size + 1 + 1, 2, none⟩ = some (.int .i64 r.2.2) → (results fn a.tmps).run Tryz.prog Z = .ok (.tuple #[vP r, .bool b]) Z)
    (hw : w' = ((((X.drewN m).setCell ⟨w.heap.size + 1 + 1, 0, none⟩ (.int .i64 r.1)).setCell ⟨w.heap.size + 1 + 1, 1, none⟩ (.int .i64 r.2.1)).setCell ⟨w.heap.size + 1 + 1, 2, none⟩ (.int .i64 r.2.2)))
    (hR : ∀ W, Below w.heap.size w W → R (.returned (.tuple #[vP r, .bool b])) W) : bodyPost Tryz.prog fn R .ret a w' := by
  subst hw
  obtain ⟨z0, z1, z2⟩ := ((h.br.drewN m).set3 (.int .i64 r.1) (.int .i64 r.2.1) (.int .i64 r.2.2)).three8
  exact bodyPost_ret (hr _ z0 z1 z2) hd (hR _ ((((below_drewN h.bel m).setCell (by dsimp only; omega) _).setCell (by dsimp only; omega) _).setCell (by dsimp only; omega) _))
set_option maxRecDepth 100000 in
set_option maxHeartbeats 16000000 in
theorem behind_any (A : Option Addr) (c : Nat) (l : List Tri) (p q : Pt) (w : World) (hs : Sl encT 9 w w.heap.size A l) (hl : l.length ≤ 4294967296) (hp : fitsP p) (hq : fitsP q) (hf : ∀ t ∈ l, fitsT t) :
    Calls Tryz.prog 103 #[.slice A l.length c, vP p, vP q] w fun e w' => e = .returned (.tuple #[vP ((behP l p q).getD p), .bool (behP l p q).isSome]) ∧ Below w.heap.size w w' := by
  obtain ⟨n, hn⟩ : ∃ n, n = l.length := ⟨_, rfl⟩
  rw [← hn] at hl ⊢
  have HS := hide (And.intro hs (And.intro hn (And.intro hf trivial)))
  have HP := hide (And.intro hp (And.intro hq trivial))
  clear hs hn hf hp hq
  go_enter Tryz.func103, Tryz.ntmps103
  go_wp2_with fail
  obtain ⟨X, hX⟩ : ∃ X, X = ((w.alloc (.cells #[.int .i64 p.1, .int .i64 p.2.1, .int .i64 p.2.2] 41)).alloc (.cells #[.int .i64 q.1, .int .i64 q.2.1, .int .i64 q.2.2] 41)).alloc (.cells #[.int .i64 0, .int .i64 0, .int .i64 0] 41) := ⟨_, rfl⟩
  rw [← hX]
  have hBX : BhX w X p q := by
    rw [hX]
    refine ⟨(((Below.refl _ w).alloc (Nat.le_refl _) _).alloc (by simp) _).alloc (by simp; omega) _, ((Blk.new _ _ _).alloc _).alloc _, (Blk.new' _ _ _ _ (by simp)).alloc _, Blk.new' _ _ _ _ (by simp)⟩
  have hslX : Sl encT 9 X w.heap.size A l := HS.out.1.below hBX.bel
  have hzX : X.heap.size = w.heap.size + 3 := by rw [hX]; simp
  have HX := hide (And.intro hBX (And.intro hslX trivial))
  clear hX hBX hslX
  go_loopw [8] (fun iv wr => ∃ k m : Nat, k ≤ n ∧ iv = .int .i64 k ∧ behP (l.take k) p q = none ∧ wr = X.drewN m) (fun iv _ => n - (intOf iv).toNat)
  case atStart => exact ⟨0, 0, by omega, rfl, rfl, rfl⟩
  case round =>
    obtain ⟨k, m0, hk, rfl, hno, rfl⟩ := hrel
    by_cases hlt : k < n
    · obtain ⟨t, ht⟩ : ∃ t, l[k]? = some t := ⟨_, List.getElem?_eq_getElem (by rw [← HS.out.2.1]; exact hlt)⟩
      have i1 : (k : Int) < (n : Int) := by omega
      obtain ⟨b, o, hA, hb, hct⟩ := HX.out.2.1.tri ht
      subst hA
      have HK := hide (And.intro ht hno)
      have HC := hide hct
      clear ht hno hct
      go_wp2
      go_loopw [9] (fun iv wr => ∃ j m : Nat, j ≤ 3 ∧ iv = .int .i64 j ∧ (∀ i, i < j → ¬(corner t i = p ∧ corner t ((i + 1) % 3) = q)) ∧ wr = X.drewN m) (fun iv _ => 3 - (intOf iv).toNat)
      case atStart => exact ⟨0, m0, by omega, rfl, fun i hi => absurd hi (by omega), rfl⟩
      case round =>
        obtain ⟨j, m, hj, rfl, hnj, rfl⟩ := hrel
        have HJ := hide hnj
        clear hnj
        have hc : j = 0 ∨ j = 1 ∨ j = 2 ∨ j = 3 := by omega
        obtain ⟨g0, g1, g2, g3, g4, g5, g6, g7, g8⟩ := HC.out
        obtain ⟨x0, x1, x2⟩ := HX.out.1.bp.three8
        obtain ⟨y0, y1, y2⟩ := HX.out.1.bq.three8
        rcases hc with rfl | rfl | rfl | rfl
        · have e1 := eqP t.1 p (HS.out.2.2.1 t (List.mem_of_getElem? HK.out.1)).1 HP.out.1
          have e2 := eqP t.2.1 q (HS.out.2.2.1 t (List.mem_of_getElem? HK.out.1)).2.1 HP.out.2.1
          by_cases h1 : t.1 = p
          · have d1 : decide (t.1 = p) = true := decide_eq_true h1
            rw [d1] at e1
            by_cases h2 : t.2.1 = q
            · have d2 : decide (t.2.1 = q) = true := decide_eq_true h2
              rw [d2] at e2
              have hb : behK t p q = some t.2.2 := behK_at 0 (by omega) h1 h2 HJ.out
              have HB := hide (bh_some HK.out.1 HK.out.2 hb)
              clear h1 h2 d1 d2 hb
              go_wp2_with fail
              go_quiet (fail)
              have hr := HX.out.1.br.drewN (m + nq)
              obtain ⟨r0, r1, r2⟩ := hr.three8
              have f0 := hr.frozen 0
              have f1 := hr.frozen 1
              have f2 := hr.frozen 2
              go_wp2
              refine beh_ret (r := t.2.2) (b := true) rfl HX.out.1 (m + nq) ?_ rfl ?_
              · intro Z z0 z1 z2; simp [results, Tryz.results103, go_sem, z0, z1, z2]
              · intro W hW; exact ⟨by rw [HB.out]; rfl, hW⟩
            · have d2 : decide (t.2.1 = q) = false := decide_eq_false h2
              rw [d2] at e2
              have HN := hide (show ∀ i, i < 0 + 1 → ¬(corner t i = p ∧ corner t ((i + 1) % 3) = q) from noJ_succ HJ.out (fun h => h2 h.2))
              clear h1 h2 d1 d2
              go_wp2_with fail
              go_quiet (fail)
              go_wp2
              go_roundw
              case rel => exact ⟨0 + 1, m + nq, by omega, by go_num, HN.out, rfl⟩
              case measure => (simp [intOf] <;> omega)
          · have d1 : decide (t.1 = p) = false := decide_eq_false h1
            rw [d1] at e1
            have HN := hide (show ∀ i, i < 0 + 1 → ¬(corner t i = p ∧ corner t ((i + 1) % 3) = q) from noJ_succ HJ.out (fun h => h1 h.1))
            clear h1 d1
            go_wp2_with fail
            go_quiet (fail)
            go_wp2
            go_roundw
            case rel => exact ⟨0 + 1, m + nq, by omega, by go_num, HN.out, rfl⟩
            case measure => (simp [intOf] <;> omega)
        · have e1 := eqP t.2.1 p (HS.out.2.2.1 t (List.mem_of_getElem? HK.out.1)).2.1 HP.out.1
          have e2 := eqP t.2.2 q (HS.out.2.2.1 t (List.mem_of_getElem? HK.out.1)).2.2 HP.out.2.1
          by_cases h1 : t.2.1 = p
          · have d1 : decide (t.2.1 = p) = true := decide_eq_true h1
            rw [d1] at e1
            by_cases h2 : t.2.2 = q
            · have d2 : decide (t.2.2 = q) = true := decide_eq_true h2
              rw [d2] at e2
              have hb : behK t p q = some t.1 := behK_at 1 (by omega) h1 h2 HJ.out
              have HB := hide (bh_some HK.out.1 HK.out.2 hb)
              clear h1 h2 d1 d2 hb
              go_wp2_with fail
              go_quiet (fail)
              have hr := HX.out.1.br.drewN (m + nq)
              obtain ⟨r0, r1, r2⟩ := hr.three8
              have f0 := hr.frozen 0
              have f1 := hr.frozen 1
              have f2 := hr.frozen 2
              go_wp2
              refine beh_ret (r := t.1) (b := true) rfl HX.out.1 (m + nq) ?_ rfl ?_
              · intro Z z0 z1 z2; simp [results, Tryz.results103, go_sem, z0, z1, z2]
              · intro W hW; exact ⟨by rw [HB.out]; rfl, hW⟩
            · have d2 : decide (t.2.2 = q) = false := decide_eq_false h2
              rw [d2] at e2
              have HN := hide (show ∀ i, i < 1 + 1 → ¬(corner t i = p ∧ corner t ((i + 1) % 3) = q) from noJ_succ HJ.out (fun h => h2 h.2))
              clear h1 h2 d1 d2
              go_wp2_with fail
              go_quiet (fail)
              go_wp2
              go_roundw
              case rel => exact ⟨1 + 1, m + nq, by omega, by go_num, HN.out, rfl⟩
              case measure => (simp [intOf] <;> omega)
          · have d1 : decide (t.2.1 = p) = false := decide_eq_false h1
            rw [d1] at e1
            have HN := hide (show ∀ i, i < 1 + 1 → ¬(corner t i = p ∧ corner t ((i + 1) % 3) = q) from noJ_succ HJ.out (fun h => h1 h.1))
            clear h1 d1
            go_wp2_with fail
            go_quiet (fail)
            go_wp2
            go_roundw
            case rel => exact ⟨1 + 1, m + nq, by omega, by go_num, HN.out, rfl⟩
            case measure => (simp [intOf] <;> omega)
        · have e1 := eqP t.2.2 p (HS.out.2.2.1 t (List.mem_of_getElem? HK.out.1)).2.2 HP.out.1
          have e2 := eqP t.1 q (HS.out.2.2.1 t (List.mem_of_getElem? HK.out.1)).1 HP.out.2.1
          by_cases h1 : t.2.2 = p
          · have d1 : decide (t.2.2 = p) = true := decide_eq_true h1
            rw [d1] at e1
            by_cases h2 : t.1 = q
            · have d2 : decide (t.1 = q) = true := decide_eq_true h2
              rw [d2] at e2
              have hb : behK t p q = some t.2.1 := behK_at 2 (by omega) h1 h2 HJ.out
              have HB := hide (bh_some HK.out.1 HK.out.2 hb)
              clear h1 h2 d1 d2 hb
              go_wp2_with fail
              go_quiet (fail)
              have hr := HX.out.1.br.drewN (m + nq)
              obtain ⟨r0, r1, r2⟩ := hr.three8
              have f0 := hr.frozen 0
              have f1 := hr.frozen 1
              have f2 := hr.frozen 2
              go_wp2
              refine beh_ret (r := t.2.1) (b := true) rfl HX.out.1 (m + nq) ?_ rfl ?_
              · intro Z z0 z1 z2; simp [results, Tryz.results103, go_sem, z0, z1, z2]
              · intro W hW; exact ⟨by rw [HB.out]; rfl, hW⟩
            · have d2 : decide (t.1 = q) = false := decide_eq_false h2
              rw [d2] at e2
              have HN := hide (show ∀ i, i < 2 + 1 → ¬(corner t i = p ∧ corner t ((i + 1) % 3) = q) from noJ_succ HJ.out (fun h => h2 h.2))
              clear h1 h2 d1 d2
              go_wp2_with fail
              go_quiet (fail)
              go_wp2
              go_roundw
              case rel => exact ⟨2 + 1, m + nq, by omega, by go_num, HN.out, rfl⟩
              case measure => (simp [intOf] <;> omega)
          · have d1 : decide (t.2.2 = p) = false := decide_eq_false h1
            rw [d1] at e1
            have HN := hide (show ∀ i, i < 2 + 1 → ¬(corner t i = p ∧ corner t ((i + 1) % 3) = q) from noJ_succ HJ.out (fun h => h1 h.1))
            clear h1 d1
            go_wp2_with fail
            go_quiet (fail)
            go_wp2
            go_roundw
            case rel => exact ⟨2 + 1, m + nq, by omega, by go_num, HN.out, rfl⟩
            case measure => (simp [intOf] <;> omega)
        · have hb := behK_none HJ.out
          have hn1 : behP (l.take (k + 1)) p q = none := by
            have h1 := HK.out.2
            unfold behP at h1 ⊢
            rw [findSome_take _ _ _ _ HK.out.1, h1, hb]; rfl
          have HN := hide hn1
          clear hb hn1 g0 g1 g2 g3 g4 g5 g6 g7 g8
          go_wp2
          go_roundw
          case rel => exact ⟨k + 1, m, by omega, by go_num, HN.out, rfl⟩
          case measure => simp [intOf]; omega
    · have hke : k = l.length := by rw [← HS.out.2.1]; omega
      rw [hke, List.take_length] at hno
      have hkn : n = k := by omega
      have HE := hide hno
      clear hno hke
      subst hkn
      obtain ⟨x0, x1, x2⟩ := HX.out.1.bp.three8
      obtain ⟨r0, r1, r2⟩ := HX.out.1.br.three8
      have f0 := HX.out.1.br.frozen 0
      have f1 := HX.out.1.br.frozen 1
      have f2 := HX.out.1.br.frozen 2
      go_wp2
      refine beh_ret (r := p) (b := false) rfl HX.out.1 m0 ?_ rfl ?_
      · intro Z z0 z1 z2
        simp [results, Tryz.results103, go_sem, z0, z1, z2]
      · intro W hW
        exact ⟨by rw [HE.out]; rfl, hW⟩
end Go.Proofs.YtelfnmohpjkilaaGreatDoor
namespace Go.Proofs.YtelfnmohpjkilaaGreatDoor
open Go.RowKit Go.Sort
theorem own_row8 {β : Type} {encb : β → List Value} {kb : Nat} {eb : TypeId} {n base : Nat} {w : World} {v : Value} {xs : List β} {t : TypeId} (h : Own encb kb eb w base v n xs) (hte : eb ≠ t) : ∀ r, v.ownBlock = some r → r < base ∨ ∀ cs, w.heap[r]? ≠ some (.cells cs t (0, 0)) := fun r hr => by
  obtain ⟨cs, hc⟩ := h.cells r hr
  refine .inr fun cs' hc' => ?_
  rw [hc] at hc'
  cases hc'
  exact hte rfl
theorem pinL_fits {l : List Tri} {p : Pt} (h : ∀ t ∈ l, fitsT t) : ∀ x ∈ pinL l p, fitsT x.1 ∧ fitsP x.2 := by
  intro x hx
  obtain ⟨t, ht, hx⟩ := List.mem_flatMap.1 hx
  obtain ⟨i, _, hx⟩ := List.mem_flatMap.1 hx
  split at hx
  · rw [List.mem_singleton.1 hx]
    exact ⟨h t ht, corner_fits (h t ht) _⟩
  · cases hx
theorem CellsT.below8 {w w' : World} {b o n : Nat} {t : Tri} (h : CellsT w b o t) (hB : Below n w w') (hb : b < n) : CellsT w' b o t := by
  obtain ⟨h0, h1, h2, h3, h4, h5, h6, h7, h8⟩ := h
  exact ⟨(hB.cell (p := ⟨b, _, none⟩) hb).trans h0, (hB.cell (p := ⟨b, _, none⟩) hb).trans h1, (hB.cell (p := ⟨b, _, none⟩) hb).trans h2, (hB.cell (p := ⟨b, _, none⟩) hb).trans h3, (hB.cell (p := ⟨b, _, none⟩) hb).trans h4, (hB.cell (p := ⟨b, _, none⟩) hb).trans h5, (hB.cell (p := ⟨b, _, none⟩) hb).trans h6, (hB.cell (p := ⟨b, _, none⟩) hb).trans h7, (hB.cell (p := ⟨b, _, none⟩) hb).trans h8⟩
set_option maxRecDepth 100000 in
set_option maxHeartbeats 16000000 in
theorem pinched_any (A : Option Addr) (c : Nat) (l : List Tri) (p : Pt) (w : World) (hs : Sl encT 9 w w.heap.size A l) (hl : l.length ≤ 1073741824) (hp : fitsP p) (hf : ∀ t ∈ l, fitsT t) :
    Calls Tryz.prog 81 #[.slice A l.length c, vP p] w fun e w' => e = .returned (.bool (pinchedP l p)) ∧ Below w.heap.size w w' := by
  obtain ⟨n, hn⟩ : ∃ n, n = l.length := ⟨_, rfl⟩
  rw [← hn] at hl ⊢
  have HS := hide (And.intro hs (And.intro hn (And.intro hf trivial)))
  have HP := hide (And.intro hp trivial)
  clear hs hn hf hp
  go_enter Tryz.func81, Tryz.ntmps81
  go_wp2_with fail
  obtain ⟨X, hX⟩ : ∃ X, X = w.alloc (.cells #[.int .i64 p.1, .int .i64 p.2.1, .int .i64 p.2.2] 41) := ⟨_, rfl⟩
  rw [← hX]
  have hBX : Below w.heap.size w X := by rw [hX]; exact (Below.refl _ w).alloc (Nat.le_refl _) _
  have hbX : Blk X w.heap.size 41 #[.int .i64 p.1, .int .i64 p.2.1, .int .i64 p.2.2] := by rw [hX]; exact Blk.new _ _ _
  have hzX : X.heap.size = w.heap.size + 1 := by rw [hX]; simp
  have hzX0 : w.heap.size ≤ X.heap.size := by omega
  have HX := hide (And.intro hBX (And.intro hbX (HS.out.1.below hBX)))
  clear hX hBX hbX
  go_loopw [5, 6, 7] (fun v1 v2 iv wr => ∃ (k m : Nat) (L : List (Tri × Pt)), k ≤ n ∧ iv = .int .i64 k ∧ m ≤ 3 * k ∧ L = pinL (l.take k) p ∧ Own encT 9 58 wr X.heap.size v1 m (L.map (·.1)) ∧ Own encP 3 41 wr X.heap.size v2 m (L.map (·.2)) ∧ Below X.heap.size X wr) (fun _ _ iv _ => n - (intOf iv).toNat)
  case atStart => exact ⟨0, 0, [], by omega, rfl, by omega, rfl, Own.nil, Own.nil, Below.refl _ X⟩
  case round =>
    obtain ⟨k, m0, L0, hk, rfl, hm0, hL0, hown1, hown2, hB⟩ := hrel
    obtain ⟨A10, c10, rfl⟩ := hown1.form
    obtain ⟨A20, c20, rfl⟩ := hown2.form
    by_cases hlt : k < n
    · obtain ⟨t, ht⟩ : ∃ t, l[k]? = some t := ⟨_, List.getElem?_eq_getElem (by rw [← HS.out.2.1]; exact hlt)⟩
      have i1 : (k : Int) < (n : Int) := by omega
      obtain ⟨b, o, hA, hbb, hct⟩ := HX.out.2.2.tri ht
      subst hA
      have HK := hide (And.intro ht (HS.out.2.2.1 t (List.mem_of_getElem? ht)))
      have HL := hide (And.intro hL0 (And.intro hown1 (And.intro hown2 hB)))
      have HC := hide hct
      clear ht hct hL0 hown1 hown2 hB
      go_wp2
      go_loopw [5, 6, 8] (fun v1 v2 iv wr => ∃ (j m : Nat) (L : List (Tri × Pt)), j ≤ 3 ∧ iv = .int .i64 j ∧ m ≤ 3 * k + j ∧ L = L0 ++ pinN t p j ∧ Own encT 9 58 wr X.heap.size v1 m (L.map (·.1)) ∧ Own encP 3 41 wr X.heap.size v2 m (L.map (·.2)) ∧ Below X.heap.size X wr) (fun _ _ iv _ => 3 - (intOf iv).toNat)
      case atStart => exact ⟨0, m0, L0, by omega, rfl, by omega, by simp [pinN], HL.out.2.1, HL.out.2.2.1, HL.out.2.2.2⟩
      case round =>
        obtain ⟨j, m, L, hj, rfl, hm, hL, ho1, ho2, hB⟩ := hrel
        obtain ⟨A1, c1, rfl⟩ := ho1.form
        obtain ⟨A2, c2, rfl⟩ := ho2.form
        have hBC := HC.out.below8 (hB.mono hzX0) hbb
        obtain ⟨x0, x1, x2⟩ := (HX.out.2.1.below hB (by omega)).three8
        have HJ := hide (And.intro ho1 (And.intro ho2 (And.intro hL hB)))
        obtain ⟨g0, g1, g2, g3, g4, g5, g6, g7, g8⟩ := hBC
        clear hL ho1 ho2 hB
        have hc : j = 0 ∨ j = 1 ∨ j = 2 ∨ j = 3 := by omega
        rcases hc with rfl | rfl | rfl | rfl
        · have e1 := eqP t.1 p HK.out.2.1 HP.out.1
          by_cases h1 : t.1 = p
          · have d1 : decide (t.1 = p) = true := decide_eq_true h1
            rw [d1] at e1
            have hsn := pinN_yes 0 (t := t) (p := p) h1
            have HN := hide hsn
            clear h1 d1 hsn
            go_upto_region 9 with fail
            go_quiet (fail)
            obtain ⟨W, hW⟩ : ∃ W, W = wr.drewN nq := ⟨_, rfl⟩
            have hBW : Below X.heap.size X W := by rw [hW]; exact below_drewN HJ.out.2.2.2 nq
            have ho1 : Own encT 9 58 W X.heap.size (.slice A1 m c1) m (L.map (·.1)) := by rw [hW]; exact HJ.out.1
            have ho2 : Own encP 3 41 W X.heap.size (.slice A2 m c2) m (L.map (·.2)) := by rw [hW]; exact HJ.out.2.1
            have hcW := HC.out.below8 (hBW.mono hzX0)
            obtain ⟨q0, q1, q2, q3, q4, q5, q6, q7, q8⟩ := hcW hbb
            have hzW := hBW.size
            have HW := hide (And.intro hBW (And.intro ho1 ho2))
            rw [← hW]
            clear hBW hcW hW g0 g1 g2 g3 g4 g5 g6 g7 g8 x0 x1 x2 e1
            have ho1' := ho1.alloc (.cells (encT t).toArray 58)
            go_upto_region 11 with (at_builtin; refine wpList_append1 rfl _ _ _ rfl Tryz.underlying28 infoT rfl (by omega) encT_len encT_one rfl ho1' W.heap.size 1 t rfl (Blk.new _ _ _) (by unfold maxLen; omega) (by omega) (by simp; omega) ?_; intro g4' cap4 w4 hown4 hg4 hB4 hat4 hgb4 hlt4)
            have ho2' := ((HW.out.2.2.alloc (.cells (encT t).toArray 58)).step hg4 (own_row8 ho1' (by decide)))
            have hBw4 : Below X.heap.size X w4 := (HW.out.1.alloc hzW _).trans hB4
            have hcw4 := HC.out.below8 (hBw4.mono hzX0)
            obtain ⟨g0, g1, g2, g3, g4, g5, g6, g7, g8⟩ := hcw4 hbb
            have hz4 := hBw4.size
            have H4 := hide (And.intro hown4 (And.intro ho2' hBw4))
            clear hown4 hg4 hB4 hat4 ho2' ho1' ho1 ho2 hcw4 hBw4 q0 q1 q2 q3 q4 q5 q6 q7 q8
            have ho2' := H4.out.2.1.alloc (.cells (encP t.2.1).toArray 41)
            go_wp2_with (at_builtin; refine wpList_append1 rfl _ _ _ rfl Tryz.underlying34 infoPt rfl (by omega) encP_len encP_one rfl ho2' w4.heap.size 1 t.2.1 rfl (Blk.new _ _ _) (by unfold maxLen; omega) (by omega) (by simp; omega) ?_; intro g5' cap5 w5 hown5 hg5 hB5 hat5 hgb5 hlt5)
            go_roundw
            case rel =>
              have ho1'' := (H4.out.1.alloc (.cells (encP t.2.1).toArray 41)).step hg5 (own_row8 ho2' (by decide))
              refine ⟨0 + 1, m + 1, L ++ [(t, t.2.1)], by omega, by go_num, by omega, by rw [HN.out, ← List.append_assoc, ← HJ.out.2.2.1]; rfl, ?_, ?_, (H4.out.2.2.alloc hz4 _).trans hB5⟩
              · rw [List.map_append]; exact ho1''
              · rw [List.map_append]; exact hown5
            case measure => (simp [intOf] <;> omega)
          · have d1 : decide (t.1 = p) = false := decide_eq_false h1
            rw [d1] at e1
            have hsn := pinN_no 0 (t := t) (p := p) h1
            have HN := hide hsn
            clear h1 d1 hsn
            go_upto_region 9 with fail
            go_quiet (fail)
            clear g0 g1 g2 g3 g4 g5 g6 g7 g8 e1
            go_wp2
            go_roundw
            case rel => exact ⟨0 + 1, m, L, by omega, by go_num, by omega, by rw [HN.out]; exact HJ.out.2.2.1, HJ.out.1, HJ.out.2.1, below_drewN HJ.out.2.2.2 nq⟩
            case measure => (simp [intOf] <;> omega)
        · have e1 := eqP t.2.1 p HK.out.2.2.1 HP.out.1
          by_cases h1 : t.2.1 = p
          · have d1 : decide (t.2.1 = p) = true := decide_eq_true h1
            rw [d1] at e1
            have hsn := pinN_yes 1 (t := t) (p := p) h1
            have HN := hide hsn
            clear h1 d1 hsn
            go_upto_region 9 with fail
            go_quiet (fail)
            obtain ⟨W, hW⟩ : ∃ W, W = wr.drewN nq := ⟨_, rfl⟩
            have hBW : Below X.heap.size X W := by rw [hW]; exact below_drewN HJ.out.2.2.2 nq
            have ho1 : Own encT 9 58 W X.heap.size (.slice A1 m c1) m (L.map (·.1)) := by rw [hW]; exact HJ.out.1
            have ho2 : Own encP 3 41 W X.heap.size (.slice A2 m c2) m (L.map (·.2)) := by rw [hW]; exact HJ.out.2.1
            have hcW := HC.out.below8 (hBW.mono hzX0)
            obtain ⟨q0, q1, q2, q3, q4, q5, q6, q7, q8⟩ := hcW hbb
            have hzW := hBW.size
            have HW := hide (And.intro hBW (And.intro ho1 ho2))
            rw [← hW]
            clear hBW hcW hW g0 g1 g2 g3 g4 g5 g6 g7 g8 x0 x1 x2 e1
            have ho1' := ho1.alloc (.cells (encT t).toArray 58)
            go_upto_region 11 with (at_builtin; refine wpList_append1 rfl _ _ _ rfl Tryz.underlying28 infoT rfl (by omega) encT_len encT_one rfl ho1' W.heap.size 1 t rfl (Blk.new _ _ _) (by unfold maxLen; omega) (by omega) (by simp; omega) ?_; intro g4' cap4 w4 hown4 hg4 hB4 hat4 hgb4 hlt4)
            have ho2' := ((HW.out.2.2.alloc (.cells (encT t).toArray 58)).step hg4 (own_row8 ho1' (by decide)))
            have hBw4 : Below X.heap.size X w4 := (HW.out.1.alloc hzW _).trans hB4
            have hcw4 := HC.out.below8 (hBw4.mono hzX0)
            obtain ⟨g0, g1, g2, g3, g4, g5, g6, g7, g8⟩ := hcw4 hbb
            have hz4 := hBw4.size
            have H4 := hide (And.intro hown4 (And.intro ho2' hBw4))
            clear hown4 hg4 hB4 hat4 ho2' ho1' ho1 ho2 hcw4 hBw4 q0 q1 q2 q3 q4 q5 q6 q7 q8
            have ho2' := H4.out.2.1.alloc (.cells (encP t.2.2).toArray 41)
            go_wp2_with (at_builtin; refine wpList_append1 rfl _ _ _ rfl Tryz.underlying34 infoPt rfl (by omega) encP_len encP_one rfl ho2' w4.heap.size 1 t.2.2 rfl (Blk.new _ _ _) (by unfold maxLen; omega) (by omega) (by simp; omega) ?_; intro g5' cap5 w5 hown5 hg5 hB5 hat5 hgb5 hlt5)
            go_roundw
            case rel =>
              have ho1'' := (H4.out.1.alloc (.cells (encP t.2.2).toArray 41)).step hg5 (own_row8 ho2' (by decide))
              refine ⟨1 + 1, m + 1, L ++ [(t, t.2.2)], by omega, by go_num, by omega, by rw [HN.out, ← List.append_assoc, ← HJ.out.2.2.1]; rfl, ?_, ?_, (H4.out.2.2.alloc hz4 _).trans hB5⟩
              · rw [List.map_append]; exact ho1''
              · rw [List.map_append]; exact hown5
            case measure => (simp [intOf] <;> omega)
          · have d1 : decide (t.2.1 = p) = false := decide_eq_false h1
            rw [d1] at e1
            have hsn := pinN_no 1 (t := t) (p := p) h1
            have HN := hide hsn
            clear h1 d1 hsn
            go_upto_region 9 with fail
            go_quiet (fail)
            clear g0 g1 g2 g3 g4 g5 g6 g7 g8 e1
            go_wp2
            go_roundw
            case rel => exact ⟨1 + 1, m, L, by omega, by go_num, by omega, by rw [HN.out]; exact HJ.out.2.2.1, HJ.out.1, HJ.out.2.1, below_drewN HJ.out.2.2.2 nq⟩
            case measure => (simp [intOf] <;> omega)
        · have e1 := eqP t.2.2 p HK.out.2.2.2 HP.out.1
          by_cases h1 : t.2.2 = p
          · have d1 : decide (t.2.2 = p) = true := decide_eq_true h1
            rw [d1] at e1
            have hsn := pinN_yes 2 (t := t) (p := p) h1
            have HN := hide hsn
            clear h1 d1 hsn
            go_upto_region 9 with fail
            go_quiet (fail)
            obtain ⟨W, hW⟩ : ∃ W, W = wr.drewN nq := ⟨_, rfl⟩
            have hBW : Below X.heap.size X W := by rw [hW]; exact below_drewN HJ.out.2.2.2 nq
            have ho1 : Own encT 9 58 W X.heap.size (.slice A1 m c1) m (L.map (·.1)) := by rw [hW]; exact HJ.out.1
            have ho2 : Own encP 3 41 W X.heap.size (.slice A2 m c2) m (L.map (·.2)) := by rw [hW]; exact HJ.out.2.1
            have hcW := HC.out.below8 (hBW.mono hzX0)
            obtain ⟨q0, q1, q2, q3, q4, q5, q6, q7, q8⟩ := hcW hbb
            have hzW := hBW.size
            have HW := hide (And.intro hBW (And.intro ho1 ho2))
            rw [← hW]
            clear hBW hcW hW g0 g1 g2 g3 g4 g5 g6 g7 g8 x0 x1 x2 e1
            have ho1' := ho1.alloc (.cells (encT t).toArray 58)
            go_upto_region 11 with (at_builtin; refine wpList_append1 rfl _ _ _ rfl Tryz.underlying28 infoT rfl (by omega) encT_len encT_one rfl ho1' W.heap.size 1 t rfl (Blk.new _ _ _) (by unfold maxLen; omega) (by omega) (by simp; omega) ?_; intro g4' cap4 w4 hown4 hg4 hB4 hat4 hgb4 hlt4)
            have ho2' := ((HW.out.2.2.alloc (.cells (encT t).toArray 58)).step hg4 (own_row8 ho1' (by decide)))
            have hBw4 : Below X.heap.size X w4 := (HW.out.1.alloc hzW _).trans hB4
            have hcw4 := HC.out.below8 (hBw4.mono hzX0)
            obtain ⟨g0, g1, g2, g3, g4, g5, g6, g7, g8⟩ := hcw4 hbb
            have hz4 := hBw4.size
            have H4 := hide (And.intro hown4 (And.intro ho2' hBw4))
            clear hown4 hg4 hB4 hat4 ho2' ho1' ho1 ho2 hcw4 hBw4 q0 q1 q2 q3 q4 q5 q6 q7 q8
            have ho2' := H4.out.2.1.alloc (.cells (encP t.1).toArray 41)
            go_wp2_with (at_builtin; refine wpList_append1 rfl _ _ _ rfl Tryz.underlying34 infoPt rfl (by omega) encP_len encP_one rfl ho2' w4.heap.size 1 t.1 rfl (Blk.new _ _ _) (by unfold maxLen; omega) (by omega) (by simp; omega) ?_; intro g5' cap5 w5 hown5 hg5 hB5 hat5 hgb5 hlt5)
            go_roundw
            case rel =>
              have ho1'' := (H4.out.1.alloc (.cells (encP t.1).toArray 41)).step hg5 (own_row8 ho2' (by decide))
              refine ⟨2 + 1, m + 1, L ++ [(t, t.1)], by omega, by go_num, by omega, by rw [HN.out, ← List.append_assoc, ← HJ.out.2.2.1]; rfl, ?_, ?_, (H4.out.2.2.alloc hz4 _).trans hB5⟩
              · rw [List.map_append]; exact ho1''
              · rw [List.map_append]; exact hown5
            case measure => (simp [intOf] <;> omega)
          · have d1 : decide (t.2.2 = p) = false := decide_eq_false h1
            rw [d1] at e1
            have hsn := pinN_no 2 (t := t) (p := p) h1
            have HN := hide hsn
            clear h1 d1 hsn
            go_upto_region 9 with fail
            go_quiet (fail)
            clear g0 g1 g2 g3 g4 g5 g6 g7 g8 e1
            go_wp2
            go_roundw
            case rel => exact ⟨2 + 1, m, L, by omega, by go_num, by omega, by rw [HN.out]; exact HJ.out.2.2.1, HJ.out.1, HJ.out.2.1, below_drewN HJ.out.2.2.2 nq⟩
            case measure => (simp [intOf] <;> omega)
        · have hsn := pinL_snoc l p k t HK.out.1
          rw [← HL.out.1] at hsn
          have HN := hide hsn
          clear hsn g0 g1 g2 g3 g4 g5 g6 g7 g8
          go_wp2
          go_roundw
          case rel => exact ⟨k + 1, m, L, by omega, by go_num, by omega, by rw [HN.out]; exact HJ.out.2.2.1, HJ.out.1, HJ.out.2.1, HJ.out.2.2.2⟩
          case measure => simp [intOf]; omega
    · have hke : k = l.length := by rw [← HS.out.2.1]; omega
      rw [hke, List.take_length] at hL0
      have hkn : n = k := by omega
      have hfl := pinL_fits (p := p) HS.out.2.2.1
      rw [← hL0] at hfl
      have hpp : pinchedP l p = (L0.map (·.2)).any fun s => runP (L0.map (·.1)) p s (m0 - 1) s := by
        have h1 := hown1.1
        rw [List.length_map] at h1
        unfold pinchedP
        rw [← hL0, h1]
      have HE := hide (And.intro hpp (And.intro hown1 (And.intro hown2 (And.intro hB hfl))))
      clear hL0 hke hown1 hown2 hB hfl hpp
      subst hkn
      obtain ⟨V, rfl⟩ : ∃ V, V = wr := ⟨_, rfl⟩
      obtain ⟨M, hM⟩ : ∃ M, M = L0.map (·.1) := ⟨_, rfl⟩
      obtain ⟨S, hS⟩ : ∃ S, S = L0.map (·.2) := ⟨_, rfl⟩
      rw [← hM, ← hS] at HE
      have hMf : ∀ u ∈ M, fitsT u := fun u hu => by
        rw [hM] at hu
        obtain ⟨y, hy, rfl⟩ := List.mem_map.1 hu
        exact (HE.out.2.2.2.2 y hy).1
      have hSf : ∀ u ∈ S, fitsP u := fun u hu => by
        rw [hS] at hu
        obtain ⟨y, hy, rfl⟩ := List.mem_map.1 hu
        exact (HE.out.2.2.2.2 y hy).2
      have hzV := HE.out.2.2.2.1.size
      have hSl := HE.out.2.2.1.1
      have hMl := HE.out.2.1.1
      have HF := hide (And.intro hMf (And.intro hSf (And.intro hSl (And.intro hMl trivial))))
      have hslM : Sl encT 9 V V.heap.size A10 M := HE.out.2.1.sl encT_len (Nat.le_refl _)
      have hslS : Sl encP 3 V V.heap.size A20 S := HE.out.2.2.1.sl encP_len (Nat.le_refl _)
      have hbp : Blk V w.heap.size 41 #[.int .i64 p.1, .int .i64 p.2.1, .int .i64 p.2.2] := HX.out.2.1.below HE.out.2.2.2.1 (by omega)
      have HV := hide (And.intro hslM (And.intro hslS (And.intro hbp trivial)))
      clear hMf hSf hSl hMl hM hS hslM hslS hbp
      go_wp2
      go_loopw [9] (fun iv wx => ∃ k : Nat, k ≤ m0 ∧ iv = .int .i64 k ∧ (∀ i s, i < k → S[i]? = some s → runP M p s (m0 - 1) s = false) ∧ Below V.heap.size V wx) (fun iv _ => m0 - (intOf iv).toNat)
      case atStart => exact ⟨0, by omega, rfl, fun i s hi => absurd hi (by omega), Below.refl _ V⟩
      case round =>
        obtain ⟨k, hk, rfl, hno, hB⟩ := hrel
        obtain ⟨V1, rfl⟩ : ∃ V1, V1 = wr := ⟨_, rfl⟩
        have hzV1 := hB.size
        by_cases hlt : k < m0
        · obtain ⟨s, hs⟩ : ∃ s, S[k]? = some s := ⟨_, List.getElem?_eq_getElem (by rw [← HF.out.2.2.1]; exact hlt)⟩
          have i1 : (k : Int) < (m0 : Int) := by omega
          have hfs := HF.out.2.1 s (List.mem_of_getElem? hs)
          obtain ⟨b2, o2, hA2, hb2, _⟩ := HV.out.2.1.at hs
          subst hA2
          obtain ⟨g0, g1, g2⟩ := (HV.out.2.1.below hB).pt8 hs
          have HK := hide (And.intro hs (And.intro hno (And.intro hB hfs)))
          clear hs hno hB hfs
          go_wp2
          obtain ⟨Y, hY⟩ : ∃ Y, Y = V1.alloc (.cells #[.int .i64 s.1, .int .i64 s.2.1, .int .i64 s.2.2] 41) := ⟨_, rfl⟩
          rw [← hY]
          have hBY : Below V1.heap.size V1 Y := by rw [hY]; exact (Below.refl _ V1).alloc (Nat.le_refl _) _
          have hbY : Blk Y V1.heap.size 41 #[.int .i64 s.1, .int .i64 s.2.1, .int .i64 s.2.2] := by rw [hY]; exact Blk.new _ _ _
          have HY := hide (And.intro hBY hbY)
          clear hBY hbY hY g0 g1 g2
          go_loopw [11] (fun zv wx => ∃ (z : Nat) (x : Pt), 1 ≤ z ∧ z ≤ m0 ∧ zv = .int .i64 z ∧ runP M p s (m0 - 1) s = runP M p s (m0 - z) x ∧ fitsP x ∧ Blk wx V1.heap.size 41 #[.int .i64 x.1, .int .i64 x.2.1, .int .i64 x.2.2] ∧ Below V1.heap.size V1 wx) (fun zv _ => m0 - (intOf zv).toNat)
          case atStart => exact ⟨1, s, by omega, by omega, rfl, rfl, HK.out.2.2.2, HY.out.2, HY.out.1⟩
          case round =>
            obtain ⟨z, x, hz1, hz, rfl, hrun, hfx, hbx, hBz⟩ := hrel
            have hzr := hBz.size
            have hzb := hbx.lt
            obtain ⟨x0, x1, x2⟩ := hbx.three8
            obtain ⟨y0, y1, y2⟩ := ((HV.out.2.2.1.below HK.out.2.2.1 (by omega)).below hBz (by omega)).three8
            by_cases hlz : z < m0
            · have i2 : (z : Int) < (m0 : Int) := by omega
              have hcal := behind_any A10 c10 M p x wr (((HV.out.1.below HK.out.2.2.1).below (hBz.mono hzV1)).more (by omega)) (by rw [← HF.out.2.2.2.1]; omega) HP.out.1 hfx HF.out.1
              rw [← HF.out.2.2.2.1] at hcal
              have HZ := hide (And.intro hrun (And.intro hfx (And.intro hbx (And.intro hBz hcal))))
              clear hrun hfx hbx hBz hcal
              have hrs : runP M p s (m0 - z) x = match behP M p x with | none => false | some y => if y = s then true else runP M p s (m0 - (z + 1)) y := by
                rw [show m0 - z = (m0 - (z + 1)) + 1 by omega]; rfl
              go_wp2_with fail
              refine HZ.out.2.2.2.2.mono ?_
              rintro e w5 ⟨rfl, hB5⟩
              have hz5 := hB5.size
              have hb5 := HZ.out.2.2.1.below hB5 hzb
              cases hbeh : behP M p x with
              | none =>
                rw [hbeh] at hrs
                have HR := hide (HZ.out.1.trans hrs)
                have HB5 := hide hB5
                clear hrs hbeh hB5 hb5
                go_wp2
                go_roundw
                case rel =>
                  refine ⟨k + 1, by omega, by go_num, fun i s' hi hs' => ?_, HK.out.2.2.1.trans ((HZ.out.2.2.2.1.mono hzV1).trans ((HB5.out.mono (by omega)).alloc (by omega) _))⟩
                  rcases Nat.lt_or_ge i k with h | h
                  · exact HK.out.2.1 i s' h hs'
                  · have e : i = k := by omega
                    subst e
                    rw [HK.out.1] at hs'
                    cases hs'
                    exact HR.out
                case measure => simp [intOf]; omega
              | some y =>
                rw [hbeh] at hrs
                have hfy : fitsP y := behP_fits HF.out.1 hbeh
                obtain ⟨u0, u1, u2⟩ := hb5.three8
                have f0 := hb5.frozen 0
                have f1 := hb5.frozen 1
                have f2 := hb5.frozen 2
                have hne : w5.heap.size ≠ V1.heap.size := by omega
                have hlt5 : V1.heap.size < w5.heap.size := by omega
                have HR := hide (And.intro (HZ.out.1.trans hrs) (And.intro hfy (And.intro hb5 hB5)))
                clear hrs hbeh hB5 hb5 hfy x0 x1 x2 y0 y1 y2
                go_upto_region 22 with fail
                obtain ⟨W, hW⟩ : ∃ W, W = (((w5.setCell ⟨V1.heap.size, 0, none⟩ (.int .i64 y.1)).setCell ⟨V1.heap.size, 1, none⟩ (.int .i64 y.2.1)).setCell ⟨V1.heap.size, 2, none⟩ (.int .i64 y.2.2)).alloc (.cells #[.int .i64 y.1, .int .i64 y.2.1, .int .i64 y.2.2] 41) := ⟨_, rfl⟩
                rw [← hW]
                have hBW : Below V1.heap.size V1 W := by
                  rw [hW]
                  exact ((((HZ.out.2.2.2.1.trans (HR.out.2.2.2.mono hzr)).setCell (by dsimp only; omega) _).setCell (by dsimp only; omega) _).setCell (by dsimp only; omega) _).alloc (by simp [World.setCell]; omega) _
                have hbW : Blk W V1.heap.size 41 #[.int .i64 y.1, .int .i64 y.2.1, .int .i64 y.2.2] := by rw [hW]; exact (HR.out.2.2.1.set3 _ _ _).alloc _
                have hsW : Sl encP 3 W V.heap.size (some ⟨b2, o2, none⟩) S := (HV.out.2.1.below HK.out.2.2.1).below (hBW.mono hzV1)
                obtain ⟨x0, x1, x2⟩ := hbW.three8
                obtain ⟨g0, g1, g2⟩ := hsW.pt8 HK.out.1
                have heq := eqP y s HR.out.2.1 HK.out.2.2.2
                have HW := hide (And.intro hBW hbW)
                clear hW hBW hbW hsW u0 u1 u2 f0 f1 f2
                by_cases hys : y = s
                · have hd : decide (y = s) = true := decide_eq_true hys
                  rw [hd] at heq
                  have hres : pinchedP l p = true := by
                    rw [HE.out.1, List.any_eq_true]
                    refine ⟨s, List.mem_of_getElem? HK.out.1, ?_⟩
                    rw [HR.out.1]
                    simp [hys]
                  have HG := hide hres
                  clear hys hd hres
                  go_quiet (fail)
                  go_wp2
                  go_ret
                  exact ⟨by rw [HG.out]; rfl, below_drewN (HX.out.1.trans ((HE.out.2.2.2.1.mono hzX0).trans ((HK.out.2.2.1.mono (by omega)).trans (HW.out.1.mono (by omega))))) _⟩
                · have hd : decide (y = s) = false := decide_eq_false hys
                  rw [hd] at heq
                  have hrn : runP M p s (m0 - 1) s = runP M p s (m0 - (z + 1)) y := by
                    rw [HR.out.1]
                    simp [hys]
                  have HG := hide hrn
                  clear hys hd hrn
                  go_quiet (fail)
                  go_wp2
                  go_roundw
                  case rel => exact ⟨z + 1, y, by omega, by omega, by go_num, HG.out, HR.out.2.1, HW.out.2.drewN _, below_drewN HW.out.1 _⟩
                  case measure => simp [intOf]; omega
            · have hze : z = m0 := by omega
              subst hze
              rw [Nat.sub_self] at hrun
              have HR := hide (And.intro hrun hBz)
              clear hrun hfx hbx hBz
              go_wp2
              go_roundw
              case rel =>
                refine ⟨k + 1, by omega, by go_num, fun i s' hi hs' => ?_, HK.out.2.2.1.trans (HR.out.2.mono hzV1)⟩
                rcases Nat.lt_or_ge i k with h | h
                · exact HK.out.2.1 i s' h hs'
                · have e : i = k := by omega
                  subst e
                  rw [HK.out.1] at hs'
                  cases hs'
                  exact HR.out.1
              case measure => simp [intOf]; omega
        · have hke : k = m0 := by omega
          have hall : pinchedP l p = false := by
            rw [HE.out.1, List.any_eq_false]
            intro s hs
            obtain ⟨i, hi⟩ := List.mem_iff_getElem?.1 hs
            have hil : i < S.length := (List.getElem?_eq_some_iff.1 hi).1
            rw [hno i s (by rw [hke, HF.out.2.2.1]; exact hil) hi]
            simp
          have HR := hide (And.intro hall hB)
          clear hno hall hB
          subst hke
          go_wp2
          go_ret
          exact ⟨by rw [HR.out.1]; rfl, HX.out.1.trans ((HE.out.2.2.2.1.mono hzX0).trans (HR.out.2.mono (by omega)))⟩
end Go.Proofs.YtelfnmohpjkilaaGreatDoor
namespace Go.Proofs.YtelfnmohpjkilaaGreatDoor
open Go.RowKit Go.Sort
theorem any_some {α : Type} {f : α → Bool} {l : List α} {k : Nat} {x : α} (h : l[k]? = some x) (hf : f x = true) : l.any f = true := List.any_eq_true.2 ⟨x, List.mem_of_getElem? h, hf⟩
theorem none_succ {α : Type} {f : α → Bool} {l : List α} {k : Nat} {x : α} (hk : l[k]? = some x) (h : ∀ i x, i < k → l[i]? = some x → f x = false) (hf : f x = false) : ∀ i x, i < k + 1 → l[i]? = some x → f x = false := fun i y hi hy => by
  rcases Nat.lt_or_ge i k with h1 | h1
  · exact h i y h1 hy
  · have e : i = k := by omega
    subst e
    rw [hk] at hy
    cases hy
    exact hf
set_option maxRecDepth 100000 in
set_option maxHeartbeats 16000000 in
theorem check_any (A : Option Addr) (c : Nat) (l : List Tri) (op : Bool) (w : World) (hs : Sl encT 9 w w.heap.size A l) (hl : l.length ≤ 1073741824) (hf : ∀ t ∈ l, fitsT t) :
    Calls Tryz.prog 43 #[.slice A l.length c, .bool op] w fun e w' => e = .returned (.int .i64 (checkP l op)) ∧ Below w.heap.size w w' := by
  obtain ⟨n, hn⟩ : ∃ n, n = l.length := ⟨_, rfl⟩
  have hed := fun W (hW : Below w.heap.size w W) => edges_any A c l W ((hs.below hW).more hW.size) hl
  have hbo := fun W (hW : Below w.heap.size w W) => border_any A c l W ((hs.below hW).more hW.size) hl hf
  have hco := fun W (hW : Below w.heap.size w W) => corners_any A c l W ((hs.below hW).more hW.size) hl hf
  have hpi := fun W (hW : Below w.heap.size w W) (p : Pt) (hp : fitsP p) => pinched_any A c l p W ((hs.below hW).more hW.size) hl hp hf
  have hqb := cornersP_le l
  have hfe := edgesP_fits hf
  have hle := edgesP_length l
  obtain ⟨E, hE⟩ : ∃ E, E = edgesP l := ⟨_, rfl⟩
  obtain ⟨B, hB⟩ : ∃ B, B = borderP l := ⟨_, rfl⟩
  obtain ⟨Q, hQ⟩ : ∃ Q, Q = cornersP l := ⟨_, rfl⟩
  obtain ⟨R, hR⟩ : ∃ R, R = checkP l op := ⟨_, rfl⟩
  have hRe : R = if l.any flatT = true then 20 else if E.any (twiceE E) = true then 21 else if (!op && decide (0 < B.length)) = true then 22 else if Q.any (pinchedP l) = true then 23 else 0 := by rw [hR, hE, hB, hQ]; rfl
  rw [← hE] at hed hfe hle
  rw [← hB] at hbo
  rw [← hQ] at hco hqb
  rw [← hR]
  rw [← hn] at hl hed hbo hco hpi hle hqb ⊢
  obtain ⟨el, hel⟩ : ∃ el, el = E.length := ⟨_, rfl⟩
  rw [← hel] at hed hle
  have HS := hide (And.intro hs (And.intro hn (And.intro hf (And.intro hfe (And.intro hel hRe)))))
  have HC := hide (And.intro hed (And.intro hbo (And.intro hco (And.intro hpi (show Q.length ≤ 3221225472 by omega)))))
  have hel3 : el ≤ 3221225472 := by omega
  clear hs hn hf hfe hel hRe hed hbo hco hpi hqb hE hB hQ hR hle
  go_enter Tryz.func43, Tryz.ntmps43
  go_wp2
  go_loopw [5] (fun iv wr => ∃ k q : Nat, k ≤ n ∧ iv = .int .i64 k ∧ (∀ i t, i < k → l[i]? = some t → flatT t = false) ∧ wr = w.drewN q) (fun iv _ => n - (intOf iv).toNat)
  case atStart => exact ⟨0, 0, by omega, rfl, fun i t hi => absurd hi (by omega), rfl⟩
  case round =>
    obtain ⟨k, q, hk, rfl, hno, rfl⟩ := hrel
    by_cases hlt : k < n
    · obtain ⟨t, ht⟩ : ∃ t, l[k]? = some t := ⟨_, List.getElem?_eq_getElem (by rw [← HS.out.2.1]; exact hlt)⟩
      have i1 : (k : Int) < (n : Int) := by omega
      obtain ⟨b, o, hA, hbb, g0, g1, g2, g3, g4, g5, g6, g7, g8⟩ := HS.out.1.tri ht
      subst hA
      have hft := HS.out.2.2.1 t (List.mem_of_getElem? ht)
      have e1 := eqP t.1 t.2.1 hft.1 hft.2.1
      have e2 := eqP t.2.1 t.2.2 hft.2.1 hft.2.2
      have e3 := eqP t.2.2 t.1 hft.2.2 hft.1
      have hfl : flatT t = (decide (t.1 = t.2.1) || decide (t.2.1 = t.2.2) || decide (t.2.2 = t.1)) := rfl
      have HK := hide (And.intro ht hno)
      clear ht hno hft
      by_cases h1 : t.1 = t.2.1
      · have d1 : decide (t.1 = t.2.1) = true := decide_eq_true h1
        rw [d1] at e1
        have hx : flatT t = true := by rw [hfl, d1]; rfl
        have HX := hide (any_some HK.out.1 hx)
        clear h1 d1 hfl hx e2 e3
        go_wp2_with fail
        go_quiet (fail)
        go_wp2
        go_ret
        exact ⟨by rw [HS.out.2.2.2.2.2, if_pos HX.out]; rfl, below_drewN (below_drewN (Below.refl _ w) q) nq⟩
      · have d1 : decide (t.1 = t.2.1) = false := decide_eq_false h1
        rw [d1] at e1
        by_cases h2 : t.2.1 = t.2.2
        · have d2 : decide (t.2.1 = t.2.2) = true := decide_eq_true h2
          rw [d2] at e2
          have hx : flatT t = true := by rw [hfl, d1, d2]; rfl
          have HX := hide (any_some HK.out.1 hx)
          clear h1 d1 h2 d2 hfl hx e3
          go_wp2_with fail
          go_quiet (fail)
          go_wp2
          go_ret
          exact ⟨by rw [HS.out.2.2.2.2.2, if_pos HX.out]; rfl, below_drewN (below_drewN (Below.refl _ w) q) nq⟩
        · have d2 : decide (t.2.1 = t.2.2) = false := decide_eq_false h2
          rw [d2] at e2
          by_cases h3 : t.2.2 = t.1
          · have d3 : decide (t.2.2 = t.1) = true := decide_eq_true h3
            rw [d3] at e3
            have hx : flatT t = true := by rw [hfl, d1, d2, d3]; rfl
            have HX := hide (any_some HK.out.1 hx)
            clear h1 d1 h2 d2 h3 d3 hfl hx
            go_wp2_with fail
            go_quiet (fail)
            go_wp2
            go_ret
            exact ⟨by rw [HS.out.2.2.2.2.2, if_pos HX.out]; rfl, below_drewN (below_drewN (Below.refl _ w) q) nq⟩
          · have d3 : decide (t.2.2 = t.1) = false := decide_eq_false h3
            rw [d3] at e3
            have hx : flatT t = false := by rw [hfl, d1, d2, d3]; rfl
            have HX := hide (none_succ HK.out.1 HK.out.2 hx)
            clear h1 d1 h2 d2 h3 d3 hfl hx
            go_wp2_with fail
            go_quiet (fail)
            go_wp2
            go_roundw
            case rel => exact ⟨k + 1, q + nq, by omega, by go_num, HX.out, rfl⟩
            case measure => simp [intOf]; omega
    · have hnone := any_none HS.out.2.1 (by omega : n ≤ k) hno
      have hRe := HS.out.2.2.2.2.2
      rw [if_neg (by rw [hnone]; simp)] at hRe
      have HR := hide hRe
      clear hno hnone hRe
      have hB0 : Below w.heap.size w (w.drewN q) := below_drewN (Below.refl _ w) q
      obtain ⟨w0, hw0⟩ : ∃ w0, w0 = w.drewN q := ⟨_, rfl⟩
      rw [← hw0] at hB0 ⊢
      clear hw0
      have hz0 := hB0.size
      go_wp2_with fail
      refine (HC.out.1 w0 hB0).mono ?_
      rintro e w1 ⟨v1, rfl, hown1, hB1⟩
      obtain ⟨A1, c1, rfl⟩ := hown1.form
      have hB01 : Below w.heap.size w w1 := hB0.trans (hB1.mono hz0)
      have hz1 := hB01.size
      have H1 := hide (And.intro (hown1.sl encE_len (Nat.le_refl _)) hB01)
      clear hown1 hB1 hB01 hB0
      go_wp2
      go_loopw [7] (fun iv wr => ∃ k : Nat, k ≤ el ∧ iv = .int .i64 k ∧ (∀ i x, i < k → E[i]? = some x → twiceE E x = false) ∧ Below w1.heap.size w1 wr) (fun iv _ => el - (intOf iv).toNat)
      case atStart => exact ⟨0, by omega, rfl, fun i t hi => absurd hi (by omega), Below.refl _ w1⟩
      case round =>
        obtain ⟨k2, hk2, rfl, hno, hB⟩ := hrel
        have hzr := hB.size
        by_cases hlt2 : k2 < el
        · obtain ⟨x, hx⟩ : ∃ x, E[k2]? = some x := ⟨_, List.getElem?_eq_getElem (by rw [← HS.out.2.2.2.2.1]; exact hlt2)⟩
          have i2 : (k2 : Int) < (el : Int) := by omega
          have hsl := H1.out.1.below hB
          obtain ⟨b, o, hA, hbb, _⟩ := hsl.at hx
          subst hA
          obtain ⟨g0, g1, g2, g3, g4, g5⟩ := hsl.ed hx
          have hcal := count_any (some ⟨b, o, none⟩) c1 E x wr (hsl.more hzr) (by rw [← HS.out.2.2.2.2.1]; omega) (HS.out.2.2.2.1 x (List.mem_of_getElem? hx)) HS.out.2.2.2.1
          rw [← HS.out.2.2.2.2.1] at hcal
          have htw : twiceE E x = decide (1 < cntE E x) := rfl
          obtain ⟨m, hm⟩ : ∃ m, m = cntE E x := ⟨_, rfl⟩
          rw [← hm] at hcal htw
          have HK := hide (And.intro hx (And.intro hno (And.intro hB hcal)))
          clear hsl hx hno hB hcal hm
          go_wp2_with fail
          refine HK.out.2.2.2.mono ?_
          rintro e w2 ⟨rfl, hB2⟩
          have hB12 : Below w1.heap.size w1 w2 := HK.out.2.2.1.trans (hB2.mono hzr)
          by_cases h1 : 1 < m
          · have j1 : (1 : Int) < (m : Int) := by omega
            have hx : twiceE E x = true := by rw [htw]; simp [h1]
            have HX := hide (And.intro (any_some HK.out.1 hx) hB12)
            clear htw hx hB2 hB12
            go_wp2
            go_ret
            exact ⟨by rw [HR.out, if_pos HX.out.1]; rfl, H1.out.2.trans (HX.out.2.mono hz1)⟩
          · have j1 : ¬ (1 : Int) < (m : Int) := by omega
            have hx : twiceE E x = false := by rw [htw]; simp [h1]
            have HX := hide (And.intro (none_succ HK.out.1 HK.out.2.1 hx) hB12)
            clear htw hx hB2 hB12
            go_wp2
            go_roundw
            case rel => exact ⟨k2 + 1, by omega, by go_num, HX.out.1, HX.out.2⟩
            case measure => simp [intOf]; omega
        · have hnone := any_none HS.out.2.2.2.2.1 (by omega : el ≤ k2) hno
          have hRe := HR.out
          rw [if_neg (by rw [hnone]; simp)] at hRe
          have hBw : Below w.heap.size w wr := H1.out.2.trans (hB.mono hz1)
          have HR2 := hide (And.intro hRe hBw)
          clear hno hnone hRe hBw hB
          have hzw : w.heap.size ≤ wr.heap.size := HR2.out.2.size
          cases op with
          | true =>
            have hRe := HR2.out.1
            rw [if_neg (by simp)] at hRe
            have HR3 := hide hRe
            clear hRe
            obtain ⟨V, rfl⟩ : ∃ V, V = wr := ⟨_, rfl⟩
            have HV := hide HR2.out.2
            go_wp2_with fail
            refine (HC.out.2.2.1 V HV.out).mono ?_
            rintro e w5 ⟨A5, c5, rfl, hs5, _, hB5, hf5⟩
            have hB05 : Below w.heap.size w w5 := HV.out.trans (hB5.mono HV.out.size)
            have hz5 := hB05.size
            have hqb := HC.out.2.2.2.2
            obtain ⟨ql, hql⟩ : ∃ ql, ql = Q.length := ⟨_, rfl⟩
            rw [← hql] at hqb ⊢
            have H5 := hide (And.intro hs5 (And.intro hf5 (And.intro hql hB05)))
            clear hs5 hf5 hql hB5 hB05
            go_wp2
            go_loopw [9] (fun iv wr => ∃ k : Nat, k ≤ ql ∧ iv = .int .i64 k ∧ (∀ i x, i < k → Q[i]? = some x → pinchedP l x = false) ∧ Below w5.heap.size w5 wr) (fun iv _ => ql - (intOf iv).toNat)
            case atStart => exact ⟨0, by omega, rfl, fun i t hi => absurd hi (by omega), Below.refl _ w5⟩
            case round =>
              obtain ⟨k5, hk5, rfl, hno, hB⟩ := hrel
              have hzr := hB.size
              by_cases hlt5 : k5 < ql
              · obtain ⟨x, hx⟩ : ∃ x, Q[k5]? = some x := ⟨_, List.getElem?_eq_getElem (by rw [← H5.out.2.2.1]; exact hlt5)⟩
                have i5 : (k5 : Int) < (ql : Int) := by omega
                have hsl := H5.out.1.below hB
                obtain ⟨b, o, hA, hbb, _⟩ := hsl.at hx
                subst hA
                obtain ⟨g0, g1, g2⟩ := hsl.pt8 hx
                have hcal := HC.out.2.2.2.1 wr (H5.out.2.2.2.trans (hB.mono hz5)) x (H5.out.2.1 x (List.mem_of_getElem? hx))
                have HK := hide (And.intro hx (And.intro hno (And.intro hB hcal)))
                clear hsl hx hno hB hcal
                go_wp2_with fail
                refine HK.out.2.2.2.mono ?_
                rintro e w6 ⟨rfl, hB6⟩
                have hB56 : Below w5.heap.size w5 w6 := HK.out.2.2.1.trans (hB6.mono (by omega))
                cases hp : pinchedP l x
                · have HX := hide (And.intro (none_succ HK.out.1 HK.out.2.1 hp) hB56)
                  clear hp hB6 hB56
                  go_wp2
                  go_roundw
                  case rel => exact ⟨k5 + 1, by omega, by go_num, HX.out.1, HX.out.2⟩
                  case measure => simp [intOf]; omega
                · have HX := hide (And.intro (any_some HK.out.1 hp) hB56)
                  clear hp hB6 hB56
                  go_wp2
                  go_ret
                  exact ⟨by rw [HR3.out, if_pos HX.out.1]; rfl, H5.out.2.2.2.trans (HX.out.2.mono hz5)⟩
              · have hnone := any_none H5.out.2.2.1 (by omega : ql ≤ k5) hno
                have hRf := HR3.out
                rw [if_neg (by rw [hnone]; simp)] at hRf
                have HX := hide (And.intro hRf (H5.out.2.2.2.trans (hB.mono hz5)))
                clear hno hnone hRf hB
                go_wp2
                go_ret
                exact ⟨by rw [HX.out.1]; rfl, HX.out.2⟩
          | false =>
            have hRe := HR2.out.1
            simp only [Bool.not_false, Bool.true_and, decide_eq_true_eq] at hRe
            have HRb := hide hRe
            clear hRe
            go_wp2_with fail
            refine (HC.out.2.1 wr HR2.out.2).mono ?_
            rintro e w4 ⟨A4, c4, rfl, _, _, hB4⟩
            have hB04 : Below w.heap.size w w4 := HR2.out.2.trans (hB4.mono hzw)
            obtain ⟨bl, hbl⟩ : ∃ bl, bl = B.length := ⟨_, rfl⟩
            rw [← hbl] at HRb ⊢
            by_cases h0 : 0 < bl
            · have j0 : (0 : Int) < (bl : Int) := by omega
              have hRf := HRb.out
              rw [if_pos h0] at hRf
              have HX := hide (And.intro hRf hB04)
              clear hbl hB4 hB04 hRf
              go_wp2
              go_ret
              exact ⟨by rw [HX.out.1]; rfl, HX.out.2⟩
            · have j0 : bl = 0 := by omega
              have hRf := HRb.out
              rw [if_neg h0] at hRf
              have HR3 := hide hRf
              clear hbl hRf h0
              subst j0
              have HV := hide hB04
              clear hB4 hB04
              obtain ⟨V, rfl⟩ : ∃ V, V = w4 := ⟨_, rfl⟩
              go_wp2_with fail
              refine (HC.out.2.2.1 V HV.out).mono ?_
              rintro e w5 ⟨A5, c5, rfl, hs5, _, hB5, hf5⟩
              have hB05 : Below w.heap.size w w5 := HV.out.trans (hB5.mono HV.out.size)
              have hz5 := hB05.size
              have hqb := HC.out.2.2.2.2
              obtain ⟨ql, hql⟩ : ∃ ql, ql = Q.length := ⟨_, rfl⟩
              rw [← hql] at hqb ⊢
              have H5 := hide (And.intro hs5 (And.intro hf5 (And.intro hql hB05)))
              clear hs5 hf5 hql hB5 hB05
              go_wp2
              go_loopw [9] (fun iv wr => ∃ k : Nat, k ≤ ql ∧ iv = .int .i64 k ∧ (∀ i x, i < k → Q[i]? = some x → pinchedP l x = false) ∧ Below w5.heap.size w5 wr) (fun iv _ => ql - (intOf iv).toNat)
              case atStart => exact ⟨0, by omega, rfl, fun i t hi => absurd hi (by omega), Below.refl _ w5⟩
              case round =>
                obtain ⟨k5, hk5, rfl, hno, hB⟩ := hrel
                have hzr := hB.size
                by_cases hlt5 : k5 < ql
                · obtain ⟨x, hx⟩ : ∃ x, Q[k5]? = some x := ⟨_, List.getElem?_eq_getElem (by rw [← H5.out.2.2.1]; exact hlt5)⟩
                  have i5 : (k5 : Int) < (ql : Int) := by omega
                  have hsl := H5.out.1.below hB
                  obtain ⟨b, o, hA, hbb, _⟩ := hsl.at hx
                  subst hA
                  obtain ⟨g0, g1, g2⟩ := hsl.pt8 hx
                  have hcal := HC.out.2.2.2.1 wr (H5.out.2.2.2.trans (hB.mono hz5)) x (H5.out.2.1 x (List.mem_of_getElem? hx))
                  have HK := hide (And.intro hx (And.intro hno (And.intro hB hcal)))
                  clear hsl hx hno hB hcal
                  go_wp2_with fail
                  refine HK.out.2.2.2.mono ?_
                  rintro e w6 ⟨rfl, hB6⟩
                  have hB56 : Below w5.heap.size w5 w6 := HK.out.2.2.1.trans (hB6.mono (by omega))
                  cases hp : pinchedP l x
                  · have HX := hide (And.intro (none_succ HK.out.1 HK.out.2.1 hp) hB56)
                    clear hp hB6 hB56
                    go_wp2
                    go_roundw
                    case rel => exact ⟨k5 + 1, by omega, by go_num, HX.out.1, HX.out.2⟩
                    case measure => simp [intOf]; omega
                  · have HX := hide (And.intro (any_some HK.out.1 hp) hB56)
                    clear hp hB6 hB56
                    go_wp2
                    go_ret
                    exact ⟨by rw [HR3.out, if_pos HX.out.1]; rfl, H5.out.2.2.2.trans (HX.out.2.mono hz5)⟩
                · have hnone := any_none H5.out.2.2.1 (by omega : ql ≤ k5) hno
                  have hRf := HR3.out
                  rw [if_neg (by rw [hnone]; simp)] at hRf
                  have HX := hide (And.intro hRf (H5.out.2.2.2.trans (hB.mono hz5)))
                  clear hno hnone hRf hB
                  go_wp2
                  go_ret
                  exact ⟨by rw [HX.out.1]; rfl, HX.out.2⟩
theorem Check_any (A : Option Addr) (c : Nat) (l : List Tri) (w : World) (hs : Sl encT 9 w w.heap.size A l) (hl : l.length ≤ 1073741824) (hf : ∀ t ∈ l, fitsT t) :
    Calls Tryz.prog 15 #[.slice A l.length c] w fun e w' => e = .returned (.int .i64 (checkP l false)) ∧ Below w.heap.size w w' := by
  have hcal := check_any A c l false w hs hl hf
  have HC := hide hcal
  clear hcal hs hl hf
  go_enter Tryz.func15, Tryz.ntmps15
  go_wp2_with fail
  refine HC.out.mono ?_
  rintro e w1 ⟨rfl, hB⟩
  go_wp2
  go_ret
  exact ⟨rfl, hB⟩
end Go.Proofs.YtelfnmohpjkilaaGreatDoor
namespace Go.Proofs.YtelfnmohpjkilaaGreatDoor
open Go.RowKit Go.Sort
def encR3 (p : Pt) : List Value := [.int .i64 p.1, .int .i64 p.2.1, .int .i64 p.2.2]
theorem encR3_len (p : Pt) : (encR3 p).length = 3 := rfl
theorem grownBy_setR (W : World) (b i : Nat) (v : Value) : W.grownBy (W.setCell ⟨b, i, none⟩ v) (some b) :=
  ⟨rfl, rfl, rfl, (KeepsWalks.setCell W _ v).size, fun k _ hne => Below.heap_setCell W ⟨b, i, none⟩ v k (fun e => hne (by rw [e]))⟩
def rawC (n : Int) : Pt := (n % 16 % 3, n % 16 / 3 % 3, n % 16 / 9)
theorem rawC_fits (n : Int) : fitsP (rawC n) := by
  unfold rawC fitsP fits
  dsimp only
  omega
/-- The first j corners, the others at the origin. -/
def rawT (r : Pt) (j : Nat) : Tri := (if 0 < j then rawC r.1 else (0, 0, 0), if 1 < j then rawC r.2.1 else (0, 0, 0), if 2 < j then rawC r.2.2 else (0, 0, 0))
set_option maxRecDepth 100000 in
set_option maxHeartbeats 32000000 in
theorem raw_any (A : Option Addr) (c : Nat) (rs : List Pt) (w : World) (hs : rs ≠ [] → Sl encR3 3 w w.heap.size A rs) (hf : ∀ r ∈ rs, fitsP r) (hl : rs.length ≤ 9223372036854775807) :
    Calls Tryz.prog 24 #[.slice A rs.length c] w fun e w' => ∃ v, e = .returned v ∧ SpoR w w' 30 v := by
  obtain ⟨N, hN⟩ : ∃ N, N = rs.length := ⟨_, rfl⟩
  rw [← hN] at hl ⊢
  have HS := hide (And.intro hs (And.intro hf hN))
  clear hs hf hN
  go_enter Tryz.func24, Tryz.ntmps24
  go_wp2_with fail
  go_loopw [3, 4] (fun ov kv wr => ∃ (k m : Nat) (L : List Tri), k ≤ N ∧ k ≤ 30 ∧ kv = .int .i64 k ∧ Own encT 9 58 wr w.heap.size ov m L ∧ m ≤ k ∧ FitL L ∧ Below w.heap.size w wr) (fun _ kv _ => 30 - (intOf kv).toNat)
  case atStart => exact ⟨0, 0, [], by omega, by omega, rfl, Own.nil, by omega, (fun t h => by cases h), Below.refl _ w⟩
  case round =>
    obtain ⟨k, m, L, hk, hk30, rfl, hO, hm, hfL, hB⟩ := hrel
    obtain ⟨V, rfl⟩ : ∃ x, x = wr := ⟨_, rfl⟩
    have hO2 := hO
    by_cases hlt : k < N
    · have i1 : (k : Int) < (N : Int) := by omega
      by_cases h30 : k < 30
      · have i2 : (k : Int) < 30 := by omega
        obtain ⟨r, hr⟩ : ∃ r, rs[k]? = some r := ⟨_, List.getElem?_eq_getElem (by rw [← HS.out.2.2]; exact hlt)⟩
        have hne : rs ≠ [] := fun h => by rw [h] at hr; cases hr
        have HV := hide (And.intro hO (And.intro hfL (And.intro hB (And.intro hr (HS.out.1 hne)))))
        clear hO hO2 hfL hB hr hne
        go_upto_region 6 with fail
        obtain ⟨tb, htb⟩ : ∃ g, g = V.heap.size := ⟨_, rfl⟩
        obtain ⟨X, hX⟩ : ∃ W, W = V.alloc (.cells (encT (rawT r 0)).toArray 58) := ⟨_, rfl⟩
        have hX' := hX
        rw [show (encT (rawT r 0)).toArray = #[.int .i64 0, .int .i64 0, .int .i64 0, .int .i64 0, .int .i64 0, .int .i64 0, .int .i64 0, .int .i64 0, .int .i64 0] from rfl] at hX'
        rw [← hX', ← htb]
        have hbt : Blk X tb 58 (encT (rawT r 0)).toArray := by rw [hX, htb]; exact Blk.new _ _ _
        have hOX : Own encT 9 58 X w.heap.size u3 m L := by rw [hX]; exact HV.out.1.alloc _
        have hBX : Below w.heap.size w X := by rw [hX]; exact HV.out.2.2.1.alloc HV.out.2.2.1.size _
        have hsX : Sl encR3 3 X w.heap.size A rs := HV.out.2.2.2.2.below hBX
        have hnt : u3.ownBlock ≠ some tb := fun e => by have := (HV.out.1.blk tb e).2; omega
        have htw : w.heap.size ≤ tb := by rw [htb]; exact HV.out.2.2.1.size
        have HX := hide (And.intro hbt (And.intro hOX (And.intro hBX (And.intro hsX (And.intro hnt htw)))))
        clear hbt hOX hBX hsX hnt htw hX hX' htb
        go_wp2_with fail
        go_loopw [18] (fun jv wr => ∃ j : Nat, j ≤ 3 ∧ jv = .int .i64 j ∧ Blk wr tb 58 (encT (rawT r j)).toArray ∧ Own encT 9 58 wr w.heap.size u3 m L ∧ Below w.heap.size w wr) (fun jv _ => 3 - (intOf jv).toNat)
        case atStart => exact ⟨0, by omega, rfl, HX.out.1, HX.out.2.1, HX.out.2.2.1⟩
        case round =>
          obtain ⟨j, hj, rfl, hbt, hO, hB⟩ := hrel
          obtain ⟨R, rfl⟩ : ∃ x, x = wr := ⟨_, rfl⟩
          obtain ⟨ab, ao, hA, hab, hcc⟩ := (HV.out.2.2.2.2.below hB).at HV.out.2.2.2.1
          subst hA
          have a0 := hcc 0 _ rfl
          have a1 := hcc 1 _ rfl
          have a2 := hcc 2 _ rfl
          rw [Nat.add_zero] at a0
          have hlt2 := hbt.lt
          have habR : ab < R.heap.size := by have := hB.size; omega
          clear hcc
          obtain ⟨r1, r2, r3⟩ := r
          dsimp only at a0 a1 a2
          by_cases hj0 : j = 0
          · subst hj0
            have i3 : ((0 : Nat) : Int) < 3 := by omega
            have f0 := hbt.frozen 0
            have f1 := hbt.frozen 1
            have f2 := hbt.frozen 2
            have c0 : R.cell? ⟨tb, 0, none⟩ = some (.int .i64 0) := hbt.cell 0
            have c1 : R.cell? ⟨tb, 1, none⟩ = some (.int .i64 0) := hbt.cell 1
            have c2 : R.cell? ⟨tb, 2, none⟩ = some (.int .i64 0) := hbt.cell 2
            have hand : bits .and .i64 r1 15 = r1 % 16 := and_15 r1
            obtain ⟨n, hn⟩ : ∃ n, n = r1 % 16 := ⟨_, rfl⟩
            have hn16 : 0 ≤ n ∧ n < 16 := by omega
            rw [← hn] at hand
            have hC : rawC r1 = (n % 3, n / 3 % 3, n / 9) := by rw [hn]; rfl
            have HR := hide (And.intro hbt (And.intro hO (And.intro hB hC)))
            clear hbt hO hB hC hn
            go_wp2
            go_roundw
            case rel =>
              refine ⟨1, by omega, by go_num, ?_, ?_, ?_⟩
              · have h8 := ((HR.out.1.set_ 0 (.int .i64 (n % 3))).set_ 1 (.int .i64 (n / 3 % 3))).set_ 2 (.int .i64 (n / 9))
                rw [show ((((encT (rawT (r1, r2, r3) 0)).toArray.setIfInBounds 0 (.int .i64 (n % 3))).setIfInBounds 1 (.int .i64 (n / 3 % 3))).setIfInBounds 2 (.int .i64 (n / 9))) = (encT (rawT (r1, r2, r3) 1)).toArray by simp [encT, rawT, HR.out.2.2.2]] at h8
                exact h8
              · exact ((HR.out.2.1.kept (grownBy_setR _ tb 0 _) (.inr HX.out.2.2.2.2.1)).kept (grownBy_setR _ tb 1 _) (.inr HX.out.2.2.2.2.1)).kept (grownBy_setR _ tb 2 _) (.inr HX.out.2.2.2.2.1)
              · exact ((HR.out.2.2.1.setCell (p := ⟨tb, 0, none⟩) HX.out.2.2.2.2.2 _).setCell (p := ⟨tb, 1, none⟩) HX.out.2.2.2.2.2 _).setCell (p := ⟨tb, 2, none⟩) HX.out.2.2.2.2.2 _
            case measure => (simp [intOf]; try omega)
          by_cases hj1 : j = 1
          · subst hj1
            have i3 : ((1 : Nat) : Int) < 3 := by omega
            have f0 := hbt.frozen 3
            have f1 := hbt.frozen 4
            have f2 := hbt.frozen 5
            have c0 : R.cell? ⟨tb, 3, none⟩ = some (.int .i64 0) := hbt.cell 3
            have c1 : R.cell? ⟨tb, 4, none⟩ = some (.int .i64 0) := hbt.cell 4
            have c2 : R.cell? ⟨tb, 5, none⟩ = some (.int .i64 0) := hbt.cell 5
            have hand : bits .and .i64 r2 15 = r2 % 16 := and_15 r2
            obtain ⟨n, hn⟩ : ∃ n, n = r2 % 16 := ⟨_, rfl⟩
            have hn16 : 0 ≤ n ∧ n < 16 := by omega
            rw [← hn] at hand
            have hC : rawC r2 = (n % 3, n / 3 % 3, n / 9) := by rw [hn]; rfl
            have HR := hide (And.intro hbt (And.intro hO (And.intro hB hC)))
            clear hbt hO hB hC hn
            go_wp2
            go_roundw
            case rel =>
              refine ⟨2, by omega, by go_num, ?_, ?_, ?_⟩
              · have h8 := ((HR.out.1.set_ 3 (.int .i64 (n % 3))).set_ 4 (.int .i64 (n / 3 % 3))).set_ 5 (.int .i64 (n / 9))
                rw [show ((((encT (rawT (r1, r2, r3) 1)).toArray.setIfInBounds 3 (.int .i64 (n % 3))).setIfInBounds 4 (.int .i64 (n / 3 % 3))).setIfInBounds 5 (.int .i64 (n / 9))) = (encT (rawT (r1, r2, r3) 2)).toArray by simp [encT, rawT, HR.out.2.2.2]] at h8
                exact h8
              · exact ((HR.out.2.1.kept (grownBy_setR _ tb 3 _) (.inr HX.out.2.2.2.2.1)).kept (grownBy_setR _ tb 4 _) (.inr HX.out.2.2.2.2.1)).kept (grownBy_setR _ tb 5 _) (.inr HX.out.2.2.2.2.1)
              · exact ((HR.out.2.2.1.setCell (p := ⟨tb, 3, none⟩) HX.out.2.2.2.2.2 _).setCell (p := ⟨tb, 4, none⟩) HX.out.2.2.2.2.2 _).setCell (p := ⟨tb, 5, none⟩) HX.out.2.2.2.2.2 _
            case measure => (simp [intOf]; try omega)
          by_cases hj2 : j = 2
          · subst hj2
            have i3 : ((2 : Nat) : Int) < 3 := by omega
            have f0 := hbt.frozen 6
            have f1 := hbt.frozen 7
            have f2 := hbt.frozen 8
            have c0 : R.cell? ⟨tb, 6, none⟩ = some (.int .i64 0) := hbt.cell 6
            have c1 : R.cell? ⟨tb, 7, none⟩ = some (.int .i64 0) := hbt.cell 7
            have c2 : R.cell? ⟨tb, 8, none⟩ = some (.int .i64 0) := hbt.cell 8
            have hand : bits .and .i64 r3 15 = r3 % 16 := and_15 r3
            obtain ⟨n, hn⟩ : ∃ n, n = r3 % 16 := ⟨_, rfl⟩
            have hn16 : 0 ≤ n ∧ n < 16 := by omega
            rw [← hn] at hand
            have hC : rawC r3 = (n % 3, n / 3 % 3, n / 9) := by rw [hn]; rfl
            have HR := hide (And.intro hbt (And.intro hO (And.intro hB hC)))
            clear hbt hO hB hC hn
            go_wp2
            go_roundw
            case rel =>
              refine ⟨3, by omega, by go_num, ?_, ?_, ?_⟩
              · have h8 := ((HR.out.1.set_ 6 (.int .i64 (n % 3))).set_ 7 (.int .i64 (n / 3 % 3))).set_ 8 (.int .i64 (n / 9))
                rw [show ((((encT (rawT (r1, r2, r3) 2)).toArray.setIfInBounds 6 (.int .i64 (n % 3))).setIfInBounds 7 (.int .i64 (n / 3 % 3))).setIfInBounds 8 (.int .i64 (n / 9))) = (encT (rawT (r1, r2, r3) 3)).toArray by simp [encT, rawT, HR.out.2.2.2]] at h8
                exact h8
              · exact ((HR.out.2.1.kept (grownBy_setR _ tb 6 _) (.inr HX.out.2.2.2.2.1)).kept (grownBy_setR _ tb 7 _) (.inr HX.out.2.2.2.2.1)).kept (grownBy_setR _ tb 8 _) (.inr HX.out.2.2.2.2.1)
              · exact ((HR.out.2.2.1.setCell (p := ⟨tb, 6, none⟩) HX.out.2.2.2.2.2 _).setCell (p := ⟨tb, 7, none⟩) HX.out.2.2.2.2.2 _).setCell (p := ⟨tb, 8, none⟩) HX.out.2.2.2.2.2 _
            case measure => (simp [intOf]; try omega)
          obtain rfl : j = 3 := by omega
          have i3 : ¬ ((3 : Nat) : Int) < 3 := by omega
          have b0 := hbt.cell 0
          have b1 := hbt.cell 1
          have b2 := hbt.cell 2
          have b3 := hbt.cell 3
          have b4 := hbt.cell 4
          have b5 := hbt.cell 5
          have b6 := hbt.cell 6
          have b7 := hbt.cell 7
          have b8 := hbt.cell 8
          obtain ⟨T, hT⟩ : ∃ T, T = rawT (r1, r2, r3) 3 := ⟨_, rfl⟩
          have hfT : fitsT T := by rw [hT]; exact ⟨rawC_fits _, rawC_fits _, rawC_fits _⟩
          rw [← hT] at b0 b1 b2 b3 b4 b5 b6 b7 b8
          obtain ⟨⟨x1, x2, x3⟩, ⟨x4, x5, x6⟩, x7, x8, x9⟩ := T
          simp only [encT, List.getElem?_toArray, List.getElem?_cons_zero, List.getElem?_cons_succ] at b0 b1 b2 b3 b4 b5 b6 b7 b8
          have hzR := hB.size
          have HR := hide (And.intro hO (And.intro hB hfT))
          clear hO hB hfT hT hbt a0 a1 a2
          go_wp2_with (at_builtin; refine wpList_append1 rfl _ _ _ rfl Tryz.underlying28 infoT rfl (by omega) encT_len encT_one rfl (HR.out.1.alloc _) R.heap.size 1 ((x1, x2, x3), (x4, x5, x6), x7, x8, x9) rfl (Blk.new _ _ _) (by unfold maxLen; omega) (by omega) (by simp; omega) ?_; intro g5 cap5 w5 hown5 hg5 hB5 hat5 hgb5 hlt5; have H5 := hide (And.intro hown5 ((HR.out.2.1.alloc hzR _).trans hB5)); clear hown5 hg5 hB5 hat5 hgb5 hlt5)
          go_roundw
          case rel => exact ⟨k + 1, m + 1, L ++ [((x1, x2, x3), (x4, x5, x6), x7, x8, x9)], by omega, by omega, by go_num, H5.out.1, by omega, HV.out.2.1.app (fun t ht => by rw [List.mem_singleton] at ht; subst ht; exact HR.out.2.2), H5.out.2⟩
          case measure => (simp [intOf]; try omega)
      · have i2 : ¬ (k : Int) < 30 := by omega
        have hml := hO.1
        have h8 : SpoR w V 30 u3 := ⟨L, by have h := hO; rw [hml] at h; exact h, by omega, hfL, hB⟩
        have H8 := hide h8
        clear h8 hO hO2 hfL hB
        go_wp2
        go_ret
        exact ⟨_, rfl, H8.out⟩
    · have i1 : ¬ (k : Int) < (N : Int) := by omega
      have hml := hO.1
      have h8 : SpoR w V 30 u3 := ⟨L, by have h := hO; rw [hml] at h; exact h, by omega, hfL, hB⟩
      have H8 := hide h8
      clear h8 hO hO2 hfL hB
      go_wp2
      go_ret
      exact ⟨_, rfl, H8.out⟩
end Go.Proofs.YtelfnmohpjkilaaGreatDoor
namespace Go.Proofs.YtelfnmohpjkilaaGreatDoor
open Go.RowKit
theorem Sl.pt4 {w : World} {B : Nat} {A : Option Addr} {ps : List Pt} (h : Sl encP 3 w B A ps) {i : Nat} {p : Pt} (hi : ps[i]? = some p) :
    ∃ b o, A = some ⟨b, o, none⟩ ∧ b < B ∧ w.cell? ⟨b, o + i * 3, none⟩ = some (.int .i64 p.1) ∧ w.cell? ⟨b, o + i * 3 + 1, none⟩ = some (.int .i64 p.2.1) ∧ w.cell? ⟨b, o + i * 3 + 2, none⟩ = some (.int .i64 p.2.2) := by
  obtain ⟨b, o, ha, hb, hc⟩ := h.at hi
  exact ⟨b, o, ha, hb, hc 0 _ rfl, hc 1 _ rfl, hc 2 _ rfl⟩
set_option maxHeartbeats 2000000 in
theorem pts4_any (A B : Option Addr) (c d : Nat) (xs ys : List Pt) (w : World) (n1 n2 : Nat) (hx : Sl encP 3 w n1 A xs) (hy : Sl encP 3 w n2 B ys) (hlx : xs.length ≤ 4294967296) (_hly : ys.length ≤ 4294967296) (hfx : ∀ t ∈ xs, fitsP t) (hfy : ∀ t ∈ ys, fitsP t) :
    Calls Tryz.prog 18 #[.slice A xs.length c, .slice B ys.length d] w fun e w' => e = .returned (.bool (decide (xs = ys))) ∧ ∃ k, w' = w.drewN k := by
  go_enter Tryz.func18, Tryz.ntmps18
  by_cases hl : xs.length = ys.length
  · rw [← hl]
    go_wp2
    go_loopw [5] (fun i wr => ∃ k n : Nat, k ≤ xs.length ∧ i = .int .i64 k ∧ xs.take k = ys.take k ∧ wr = w.drewN n) (fun i _ => xs.length - (intOf i).toNat)
    case atStart => exact ⟨0, 0, Nat.zero_le _, rfl, rfl, rfl⟩
    case round =>
      obtain ⟨k, n, hk, rfl, htk, rfl⟩ := hrel
      by_cases hlt : k < xs.length
      · obtain ⟨u, hu⟩ : ∃ u, xs[k]? = some u := ⟨_, List.getElem?_eq_getElem hlt⟩
        obtain ⟨v, hv⟩ : ∃ v, ys[k]? = some v := ⟨_, List.getElem?_eq_getElem (by omega)⟩
        obtain ⟨bA, oA, rfl, _, g0, g1, g2⟩ := hx.pt4 hu
        obtain ⟨bB, oB, rfl, _, k0, k1, k2⟩ := hy.pt4 hv
        have hq := eqP u v (hfx u (List.mem_of_getElem? hu)) (hfy v (List.mem_of_getElem? hv))
        have H := hide (And.intro hx (And.intro hy (And.intro hu (And.intro hv (And.intro htk hl)))))
        have i1 : (k : Int) < (xs.length : Int) := by omega
        clear hx hy hu hv htk hl
        have htk1 := take_succ_eq H.out.2.2.1 H.out.2.2.2.1 H.out.2.2.2.2.1
        have HT := hide htk1
        clear htk1
        by_cases huv : u = v
        · have hd : decide (u = v) = true := by simp [huv]
          rw [hd] at hq
          have HU := hide huv
          clear huv hd
          go_wp2_with fail
          go_quiet (fail)
          go_wp2
          go_roundw
          case rel => exact ⟨k + 1, n + nq, by omega, by go_num, HT.out.2 HU.out, rfl⟩
          case measure => simp [intOf]; omega
        · have hd : decide (u = v) = false := by simp [huv]
          rw [hd] at hq
          have HU := hide huv
          clear huv hd
          go_wp2_with fail
          go_quiet (fail)
          go_wp2
          go_ret
          refine ⟨?_, n + nq, by simp [World.drewN, Nat.add_assoc]⟩
          have : ¬ xs = ys := fun e => HU.out (HT.out.1 (by rw [e]))
          simp [this]
      · have hke : k = xs.length := by omega
        have hxy : xs = ys := by
          rw [hke, List.take_length, hl, List.take_length] at htk
          exact htk
        have HX := hide hxy
        clear hxy htk hx hy
        go_wp2
        go_ret
        exact ⟨by simp [HX.out], n, rfl⟩
  · have hne : ¬ ((xs.length : Int) = (ys.length : Int)) := by omega
    have hne2 : ¬ xs = ys := fun e => hl (by rw [e])
    have HN := hide hne2
    clear hx hy hne2
    go_wp2
    go_ret
    exact ⟨by simp [HN.out], 0, rfl⟩
end Go.Proofs.YtelfnmohpjkilaaGreatDoor
namespace Go.Proofs.YtelfnmohpjkilaaGreatDoor
open Go.RowKit Go.Sort Go.WideMaps Go.Maps
set_option maxRecDepth 100000
theorem RCheckOpen_any (A : Option Addr) (c : Nat) (ts : List Tri) (w : World) (hs : Sl encT 9 w w.heap.size A ts) (hl : ts.length ≤ 100000000) (hf : ∀ t ∈ ts, fitsT t) :
    Calls Tryz.prog 17 #[.slice A ts.length c] w fun e w' => e = .returned (.int .i64 (checkP ts true)) ∧ Below w.heap.size w w' := by
  have hc := check_any A c ts true w hs (by omega) hf
  obtain ⟨R, hR⟩ : ∃ R, R = checkP ts true := ⟨_, rfl⟩
  obtain ⟨M, hM⟩ : ∃ R, R = ts.length := ⟨_, rfl⟩
  rw [← hR, ← hM] at hc ⊢
  have HC := hide hc
  clear hs hf hR hM hc hl
  go_enter Tryz.func17, Tryz.ntmps17
  go_wp2_with (go_at_call 43; refine (unhide HC).mono ?_; rintro e w1 ⟨rfl, hB1⟩)
  go_ret
  exact ⟨rfl, hB1⟩
end Go.Proofs.YtelfnmohpjkilaaGreatDoor
namespace Go.Proofs.YtelfnmohpjkilaaGreatDoor
open Go.ChangeShapes Go.WideShapes Go.ChangeAt Go.RowKit Go.Deep
theorem list3c : ∀ {l : List Value}, l.length = 3 → ∃ v0 v1 v2, l = [v0, v1, v2]
  | [v0, v1, v2], _ => ⟨v0, v1, v2, rfl⟩
end Go.Proofs.YtelfnmohpjkilaaGreatDoor
namespace Go.Proofs.YtelfnmohpjkilaaGreatDoor
open Go.ChangeShapes Go.WideShapes Go.ChangeAt Go.RowKit Go.Deep
set_option maxRecDepth 100000 in
theorem open_row3 {H : Type} {enc : TypeId × Value → H} {W : World} {sp : Nat → Bool} {n : Nat} {cs : List Value} {x : DataW H × List MemPlace} (h : DataW.trod enc Tryz.prog W 0 sp true n 49 cs = some x) (hl : cs.length = 3) : ∃ t : Pt, cs = encR3 t ∧ fitsP t := by
  have c1 : Tryz.prog.cellsOf 3 = 1 := by kernel_rfl
  obtain ⟨a0, a1, a2, rfl⟩ := list3c hl
  obtain ⟨ys, m2, _, _, _, hys, hh⟩ := DataW.trod_array Tryz.underlying49 h
  have k0 := hh 0 (by omega)
  have k1 := hh 1 (by omega)
  have k2 := hh 2 (by omega)
  simp only [c1, Nat.mul_one, List.drop_zero, List.drop_succ_cons, List.take_succ_cons, List.take_zero] at k0 k1 k2
  rw [List.getElem?_eq_getElem (by omega)] at k0 k1 k2
  obtain ⟨s0, f0, _, w0⟩ := DataW.trod_int Tryz.underlying3 k0
  obtain ⟨s1, f1, _, w1⟩ := DataW.trod_int Tryz.underlying3 k1
  obtain ⟨s2, f2, _, w2⟩ := DataW.trod_int Tryz.underlying3 k2
  simp only [List.cons.injEq, and_true] at f0 f1 f2
  exact ⟨(s0, s1, s2), by rw [f0, f1, f2]; rfl, fits_wf40 w0, fits_wf40 w1, fits_wf40 w2⟩
set_option maxRecDepth 100000 in
theorem open_raw4 {H : Type} {enc : TypeId × Value → H} {W : World} {r : Reach} {b0 : Nat} {v : Value} {d : DataW H} {ps : List MemPlace} (hv : Value.okWide Tryz.prog W r b0 39 v) (h : DataW.Trod enc Tryz.prog W 0 (fun _ => true) true 39 v d ps) :
    ∃ A c rs, v = .slice A rs.length c ∧ (rs ≠ [] → Sl encR3 3 W W.heap.size A rs) ∧ (∀ t ∈ rs, fitsP t) ∧ rs.length ≤ c ∧ rs.length ≤ 9223372036854775807 := by
  obtain ⟨a0, len, cap, rfl⟩ := okWide_slice Tryz.underlying39 hv
  obtain ⟨fuel, hf⟩ := h
  exact open_rows5 (good := fitsP) Tryz.underlying39 (E := 49) (k := 3) (by kernel_rfl) (by omega) encR3_len (fun _ _ _ h hl => open_row3 h hl) hf
end Go.Proofs.YtelfnmohpjkilaaGreatDoor
namespace Go.Proofs.YtelfnmohpjkilaaGreatDoor
open Go.RowKit Go.Sort
set_option maxRecDepth 100000 in
set_option maxHeartbeats 64000000 in
theorem raws_of (hsan : ∀ W : World, Calls Tryz.prog 12 #[] W fun e w' => e = .returned (.bool true) ∧ Below W.heap.size W w') (A9 : Option Addr) (c9 : Nat) (rs : List Pt) (w : World) (hs9 : rs ≠ [] → Sl encR3 3 w w.heap.size A9 rs) (hf9 : ∀ r ∈ rs, fitsP r) (hl9 : rs.length ≤ 9223372036854775807) :
    Calls Tryz.prog 7 #[.slice A9 rs.length c9] w fun e w' => e = .returned (.bool true) ∧ Below w.heap.size w w' := by
  have hrw := fun W (hW : Below w.heap.size w W) => raw_any A9 c9 rs W (fun h => ((hs9 h).below hW).more hW.size) hf9 hl9
  obtain ⟨M9, hM9⟩ : ∃ M, M = rs.length := ⟨_, rfl⟩
  simp only [← hM9] at hrw ⊢
  have HT := hide hrw
  have HS := hide hsan
  clear hrw hsan hs9 hf9 hl9 hM9
  go_enter Tryz.func7, Tryz.ntmps7
  go_upto_region 2 with (go_at_call 12; refine (HS.out w).mono ?_; rintro e X ⟨rfl, hB⟩; have H1 := hide hB; clear hB)
  go_upto_region 3 with (go_at_call 24; refine (HT.out X H1.out).mono ?_; rintro e Y ⟨v, rfl, L, ho, hl, hf, hB⟩; obtain ⟨TA, tc, rfl⟩ := ho.form; have h1 := ho.sl encT_len (Nat.le_refl _); have H2 := hide (And.intro h1 (And.intro (show L.length ≤ 401 by omega) (And.intro hf (H1.out.trans (hB.mono H1.out.size))))); clear ho hl hf hB h1)
  clear H1
  obtain ⟨N, hN⟩ : ∃ n, n = L.length := ⟨_, rfl⟩
  have hN4 : N ≤ 401 := by rw [hN]; exact H2.out.2.1
  rw [← hN]
  have hsl := fun W (h : Below Y.heap.size Y W) => (H2.out.1.below h).more h.size
  obtain ⟨E, hE⟩ : ∃ E, E = checkP L false := ⟨_, rfl⟩
  obtain ⟨E2, hE2⟩ : ∃ E, E = checkP L true := ⟨_, rfl⟩
  obtain ⟨U, hU⟩ : ∃ E, E = eulerP L := ⟨_, rfl⟩
  have k1 : ∀ W, Below Y.heap.size Y W → Calls Tryz.prog 14 #[.slice TA N tc] W fun e w' => e = .returned (.int .i64 E) ∧ Below W.heap.size W w' := fun W h => by
    have := Check4_any TA tc L W (hsl W h) (by omega) H2.out.2.2.1
    rw [← hN, ← hE] at this
    exact this
  have k2 : ∀ W, Below Y.heap.size Y W → Calls Tryz.prog 15 #[.slice TA N tc] W fun e w' => e = .returned (.int .i64 E) ∧ Below W.heap.size W w' := fun W h => by
    have := Check_any TA tc L W (hsl W h) (by omega) H2.out.2.2.1
    rw [← hN, ← hE] at this
    exact this
  have k3 : ∀ W, Below Y.heap.size Y W → Calls Tryz.prog 16 #[.slice TA N tc] W fun e w' => e = .returned (.int .i64 E2) ∧ Below W.heap.size W w' := fun W h => by
    have := CheckOpen4_any TA tc L W (hsl W h) (by omega) H2.out.2.2.1
    rw [← hN, ← hE2] at this
    exact this
  have k4 : ∀ W, Below Y.heap.size Y W → Calls Tryz.prog 17 #[.slice TA N tc] W fun e w' => e = .returned (.int .i64 E2) ∧ Below W.heap.size W w' := fun W h => by
    have := RCheckOpen_any TA tc L W (hsl W h) (by omega) H2.out.2.2.1
    rw [← hN, ← hE2] at this
    exact this
  have k5 : ∀ W, Below Y.heap.size Y W → Calls Tryz.prog 22 #[.slice TA N tc] W fun e w' => ∃ A c, e = .returned (.slice A (borderP L).length c) ∧ Sl encE 6 w' w'.heap.size A (borderP L) ∧ Below W.heap.size W w' := fun W h => by
    have := Border4_any TA tc L W (hsl W h) (by omega) H2.out.2.2.1
    rw [← hN] at this
    refine Calls.mono this ?_
    rintro e w' ⟨v, rfl, ho, hB⟩
    obtain ⟨A, c, rfl⟩ := ho.form
    exact ⟨A, c, rfl, ho.sl encE_len (Nat.le_refl _), hB⟩
  have k6 : ∀ W, Below Y.heap.size Y W → Calls Tryz.prog 23 #[.slice TA N tc] W fun e w' => ∃ A c, e = .returned (.slice A (borderP L).length c) ∧ Sl encE 6 w' w'.heap.size A (borderP L) ∧ Below W.heap.size W w' := fun W h => by
    have := border_any TA tc L W (hsl W h) (by omega) H2.out.2.2.1
    rw [← hN] at this
    refine Calls.mono this ?_
    rintro e w' ⟨A, c, rfl, h1, _, h2⟩
    exact ⟨A, c, rfl, h1, h2⟩
  have k7 : ∀ W, Below Y.heap.size Y W → Calls Tryz.prog 19 #[.slice TA N tc] W fun e w' => ∃ A c, e = .returned (.slice A (cornersP L).length c) ∧ Sl encP 3 w' w'.heap.size A (cornersP L) ∧ Below W.heap.size W w' := fun W h => by
    have := corners4_any TA tc L W (hsl W h) (by omega) H2.out.2.2.1
    rw [← hN] at this
    refine Calls.mono this ?_
    rintro e w' ⟨v, rfl, ho, hB⟩
    obtain ⟨A, c, rfl⟩ := ho.form
    exact ⟨A, c, rfl, ho.sl encP_len (Nat.le_refl _), hB⟩
  have k8 : ∀ W, Below Y.heap.size Y W → Calls Tryz.prog 20 #[.slice TA N tc] W fun e w' => ∃ A c, e = .returned (.slice A (cornersP L).length c) ∧ Sl encP 3 w' w'.heap.size A (cornersP L) ∧ Below W.heap.size W w' ∧ ∀ p ∈ cornersP L, fitsP p := fun W h => by
    have := corners_any TA tc L W (hsl W h) (by omega) H2.out.2.2.1
    rw [← hN] at this
    refine Calls.mono this ?_
    rintro e w' ⟨A, c, rfl, h1, _, h2, h3⟩
    exact ⟨A, c, rfl, h1, h2, h3⟩
  have k9 : ∀ W, Below Y.heap.size Y W → Calls Tryz.prog 36 #[.slice TA N tc] W fun e w' => e = .returned (.int .i64 U) ∧ Below W.heap.size W w' := fun W h => by
    have := euler4_any TA tc L W (hsl W h) (by omega) H2.out.2.2.1
    rw [← hN, ← hU] at this
    exact this
  have k10 : ∀ W, Below Y.heap.size Y W → Calls Tryz.prog 37 #[.slice TA N tc] W fun e w' => e = .returned (.int .i64 U) ∧ Below W.heap.size W w' := fun W h => by
    have := eulerR_any TA tc L W (hsl W h) (by omega) H2.out.2.2.1
    rw [← hN, ← hU] at this
    exact this
  have hfe : ∀ e ∈ borderP L, fitsE e := fun e he => edgesP_fits H2.out.2.2.1 e (((border_both L).2 e).1 he).1
  have hbl := borderP_le L
  have hcl := cornersP_le L
  obtain ⟨CP, hCP⟩ : ∃ l, l = cornersP L := ⟨_, rfl⟩
  obtain ⟨BP, hBP⟩ : ∃ l, l = borderP L := ⟨_, rfl⟩
  obtain ⟨q1, hq1⟩ : ∃ n, n = CP.length := ⟨_, rfl⟩
  obtain ⟨q2, hq2⟩ : ∃ n, n = BP.length := ⟨_, rfl⟩
  simp only [← hCP, ← hq1] at k7 k8 hcl
  simp only [← hBP, ← hq2] at k5 k6 hfe hbl
  have hpt : ∀ (A B : Option Addr) (c d : Nat) W n1 n2, Sl encP 3 W n1 A CP → Sl encP 3 W n2 B CP → (∀ p ∈ CP, fitsP p) → Calls Tryz.prog 18 #[.slice A q1 c, .slice B q1 d] W fun e w' => e = .returned (.bool true) ∧ ∃ k, w' = W.drewN k := fun A B c d W n1 n2 h1 h2 h3 => by
    have := pts4_any A B c d CP CP W n1 n2 h1 h2 (by omega) (by omega) h3 h3
    rw [← hq1, decide_eq_true (rfl : CP = CP)] at this; exact this
  have hpr : ∀ (A B : Option Addr) (c d : Nat) W n1 n2, Sl encE 6 W n1 A BP → Sl encE 6 W n2 B BP → Calls Tryz.prog 21 #[.slice A q2 c, .slice B q2 d] W fun e w' => e = .returned (.bool true) ∧ ∃ k, w' = W.drewN k := fun A B c d W n1 n2 h1 h2 => by
    have := prs4_any A B c d BP BP W n1 n2 h1 h2 (by omega) (by omega) hfe hfe
    rw [← hq2, decide_eq_true (rfl : BP = BP)] at this; exact this
  have KK := hide (And.intro k1 (And.intro k2 (And.intro k3 (And.intro k4 (And.intro k5 (And.intro k6 (And.intro k7 (And.intro k8 (And.intro k9 (And.intro k10 (And.intro hpt hpr)))))))))))
  clear k1 k2 k3 k4 k5 k6 k7 k8 k9 k10 hpt hpr hfe hbl hcl hCP hBP hq1 hq2 hE hE2 hU
  obtain ⟨S, hS⟩ := ClsS.some (canonO L)
  have hnP := parts_few hS
  have hflP := parts_flat H2.out.2.2.1 hS.eqB
  have hcaP := partsT_canon (ts := L) hS.eqB
  obtain ⟨P, hP⟩ : ∃ P, P = partsT (canonO L) S (canonO L).length := ⟨_, rfl⟩
  rw [← hP] at hnP hflP hcaP
  rw [canonO_length, ← hN] at hnP
  rw [← hN] at hflP
  have kA : ∀ W, Below Y.heap.size Y W → Calls Tryz.prog 34 #[.slice TA N tc] W fun e w' => ∃ A c, e = .returned (.slice A P.length c) ∧ Pcs encT 9 58 28 w' W.heap.size (.slice A P.length c) P ∧ Below W.heap.size W w' := fun W h => by
    have k := parts4_any TA tc L W (hsl W h) (by omega) H2.out.2.2.1 S hS
    rw [← hN, ← hP] at k
    refine Calls.mono k ?_
    rintro e w' ⟨v, rfl, ho, hB⟩
    obtain ⟨A, c, rfl⟩ := ho.form
    exact ⟨A, c, rfl, ho.pcs, hB⟩
  have kB : ∀ W, Below Y.heap.size Y W → Calls Tryz.prog 35 #[.slice TA N tc] W fun e w' => ∃ A c, e = .returned (.slice A P.length c) ∧ Pcs encT 9 58 28 w' W.heap.size (.slice A P.length c) P ∧ Below W.heap.size W w' := fun W h => by
    have k := parts04_any TA tc L W (hsl W h) (by omega) H2.out.2.2.1 S hS
    rw [← hN, ← hP] at k
    refine Calls.mono k ?_
    rintro e w' ⟨v, rfl, ho, hB⟩
    obtain ⟨A, c, rfl⟩ := ho.form
    exact ⟨A, c, rfl, ho, hB⟩
  obtain ⟨np, hnp⟩ : ∃ n, n = P.length := ⟨_, rfl⟩
  simp only [← hnp] at kA kB hnP
  have K := hide (And.intro kA (And.intro kB (And.intro trivial (And.intro hflP (And.intro hnp trivial)))))
  have HZ := hide H2.out.2.2.2
  clear kA kB hflP hcaP hsl hP hN H2 hS hnp
  have t0 : ((np : Int) != (np : Int)) = false := by simp
  go_wp2_with (first
    | (go_at_call 35; refine (K.out.2.1 W1 J1.out.2).mono ?_; rintro e Z ⟨BA, bc, rfl, hp, hB⟩; have J2 := hide (And.intro (J1.out.1.below hB (Nat.le_refl _)) (And.intro hp (J1.out.2.trans (hB.mono J1.out.2.size)))); clear hp hB)
    | (go_at_call 34; refine (K.out.1 Y (Below.refl _ Y)).mono ?_; rintro e W1 ⟨AA, ac, rfl, hp, hB⟩; have J1 := hide (And.intro hp hB); clear hp hB))
  go_loopw [22] (fun kv wr => ∃ k : Nat, k ≤ np ∧ kv = .int .i64 k ∧ Below Z.heap.size Z wr) (fun kv _ => np - (intOf kv).toNat)
  case atStart => exact ⟨0, by omega, rfl, Below.refl _ Z⟩
  case round =>
    obtain ⟨k, hk, rfl, hB⟩ := hrel
    obtain ⟨V, rfl⟩ : ∃ x, x = wr := ⟨_, rfl⟩
    by_cases hlt : k < np
    · have i1 : (k : Int) < (np : Int) := by omega
      obtain ⟨p, hp⟩ : ∃ p, P[k]? = some p := ⟨_, List.getElem?_eq_getElem (by rw [← K.out.2.2.2.2.1]; exact hlt)⟩
      have hpm := K.out.2.2.2.1.1 p (List.mem_of_getElem? hp)
      obtain ⟨ba, oa, A1, c1, hA1, hl1, x0, ho1⟩ := J2.out.1.piece hp
      obtain ⟨bb, ob, A2, c2, hA2, hl2, x1, ho2⟩ := J2.out.2.1.piece hp
      subst hA1 hA2
      have z0 := (hB.cell (p := ⟨ba, oa + k, none⟩) hl1).trans x0
      have z1 := (hB.cell (p := ⟨bb, ob + k, none⟩) hl2).trans x1
      have hla : ba < V.heap.size := Nat.lt_of_lt_of_le hl1 hB.size
      have hlb : bb < V.heap.size := Nat.lt_of_lt_of_le hl2 hB.size
      have htk : (P.take (k + 1)).flatten = (P.take k).flatten ++ p := by rw [List.take_add_one, hp, List.flatten_append]; simp
      obtain ⟨pl, hpl⟩ : ∃ n, n = p.length := ⟨_, rfl⟩
      rw [← hpl] at x0 x1 z0 z1 ho1 ho2 hpm
      have hq : ∀ W, Below Z.heap.size Z W → Calls Tryz.prog 29 #[.slice A1 pl c1, .slice A2 pl c2] W fun e w' => e = .returned (.bool true) ∧ ∃ k, w' = W.drewN k := fun W h => by
        have := equal_any A1 A2 c1 c2 p p W _ _ ((ho1.sl encT_len (Nat.le_refl _)).below h) ((ho2.sl encT_len (Nat.le_refl _)).below h) (by omega) (by omega) hpm.2 hpm.2
        rw [← hpl, decide_eq_true (rfl : p = p)] at this; exact this
      have HQ := hide (And.intro hq (And.intro hB (And.intro ho1 (And.intro hpm (And.intro htk (And.intro hpl x0))))))
      clear hq hB ho1 ho2 hpm htk hpl x0 x1 hp hl2
      go_upto_region 9 with fail
      go_still_tail 8, (by kernel_rfl)
      repeat still_step
      change wpList _ _ _ _ _ V.drew
      go_wp2_with (go_at_call 29; refine (HQ.out.1 V.drew HQ.out.2.1.drew).mono ?_; rintro e W3 ⟨rfl, kd, hw⟩; have H3 := hide (show Below Z.heap.size Z W3 by rw [hw]; exact below_drewN HQ.out.2.1.drew kd); clear hw)
      go_roundw
      case rel => exact ⟨k + 1, by omega, by go_num, H3.out⟩
      case measure => (simp [intOf]; try omega)
    · obtain rfl : k = np := by omega
      have i1 : ¬ (k : Int) < (k : Int) := by omega
      have hYV := J2.out.2.2.trans (hB.mono J2.out.2.2.size)
      obtain ⟨W20, hW20⟩ : ∃ W, W = V := ⟨_, rfl⟩
      rw [← hW20] at hYV ⊢
      have G20 := hide hYV
      have e1 : (E == E) = true := by simp
      have e2 : (E2 == E2) = true := by simp
      have e3 : (U == U) = true := by simp
      clear hB hYV hW20
      go_wp2_with (first
        | (go_at_call 37; refine (KK.out.2.2.2.2.2.2.2.2.2.1 W31 G31.out).mono ?_; rintro e W32 ⟨rfl, hB⟩; have G32 := hide (G31.out.trans (hB.mono G31.out.size)); clear hB)
        | (go_at_call 36; refine (KK.out.2.2.2.2.2.2.2.2.1 W30 G30.out).mono ?_; rintro e W31 ⟨rfl, hB⟩; have G31 := hide (G30.out.trans (hB.mono G30.out.size)); clear hB)
        | (go_at_call 18; refine (KK.out.2.2.2.2.2.2.2.2.2.2.1 A6 A7 c6 c7 W29 _ _ G29.out.2.1 G29.out.2.2.1 G29.out.2.2.2).mono ?_; rintro e W30 ⟨rfl, kd, hw⟩; have G30 := hide (show Below Y.heap.size Y W30 by rw [hw]; exact below_drewN G29.out.1 kd); clear hw)
        | (go_at_call 20; refine (KK.out.2.2.2.2.2.2.2.1 W28 G28.out.1).mono ?_; rintro e W29 ⟨A7, c7, rfl, hx, hB, hp⟩; have G29 := hide (And.intro (G28.out.1.trans (hB.mono G28.out.1.size)) (And.intro (G28.out.2.below hB) (And.intro hx hp))); clear hB hx hp)
        | (go_at_call 19; refine (KK.out.2.2.2.2.2.2.1 W27 G27.out).mono ?_; rintro e W28 ⟨A6, c6, rfl, hx, hB⟩; have G28 := hide (And.intro (G27.out.trans (hB.mono G27.out.size)) hx); clear hB hx)
        | (go_at_call 21; refine (KK.out.2.2.2.2.2.2.2.2.2.2.2 A4 A5 c4 c5 W26 _ _ G26.out.2.1 G26.out.2.2).mono ?_; rintro e W27 ⟨rfl, kd, hw⟩; have G27 := hide (show Below Y.heap.size Y W27 by rw [hw]; exact below_drewN G26.out.1 kd); clear hw)
        | (go_at_call 23; refine (KK.out.2.2.2.2.2.1 W25 G25.out.1).mono ?_; rintro e W26 ⟨A5, c5, rfl, hx, hB⟩; have G26 := hide (And.intro (G25.out.1.trans (hB.mono G25.out.1.size)) (And.intro (G25.out.2.below hB) hx)); clear hB hx)
        | (go_at_call 22; refine (KK.out.2.2.2.2.1 W24 G24.out).mono ?_; rintro e W25 ⟨A4, c4, rfl, hx, hB⟩; have G25 := hide (And.intro (G24.out.trans (hB.mono G24.out.size)) hx); clear hB hx)
        | (go_at_call 17; refine (KK.out.2.2.2.1 W23 G23.out).mono ?_; rintro e W24 ⟨rfl, hB⟩; have G24 := hide (G23.out.trans (hB.mono G23.out.size)); clear hB)
        | (go_at_call 16; refine (KK.out.2.2.1 W22 G22.out).mono ?_; rintro e W23 ⟨rfl, hB⟩; have G23 := hide (G22.out.trans (hB.mono G22.out.size)); clear hB)
        | (go_at_call 15; refine (KK.out.2.1 W21 G21.out).mono ?_; rintro e W22 ⟨rfl, hB⟩; have G22 := hide (G21.out.trans (hB.mono G21.out.size)); clear hB)
        | (go_at_call 14; refine (KK.out.1 W20 G20.out).mono ?_; rintro e W21 ⟨rfl, hB⟩; have G21 := hide (G20.out.trans (hB.mono G20.out.size)); clear hB))
      go_ret
      exact ⟨rfl, HZ.out.trans (G32.out.mono HZ.out.size)⟩
end Go.Proofs.YtelfnmohpjkilaaGreatDoor
