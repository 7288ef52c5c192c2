/- PartW. -/
import Derived.WalkKit
import Derived.WalkSpells
import Derived.WalkLawsBesides
import Derived.Laws.OwnMore
import Derived.Deep.AppendLies
import Derived.Deep.Draws
import Derived.Maps.AppendAt
import Derived.OwnWalk
import Derived.Sort.Grow
import Derived.Shelf.GgSortFunc.RowK
import Derived.RangeFuncNested
import Derived.RangeFuncBox
import Derived.Test.YtelfnmohpjkilaaGreatDoorRows
import Derived.Handy
import Derived.Maps.Own
import Derived.Maps.Views
import Derived.DeepKeys4
import Derived.DeepKeys
import Derived.Laws.StructEq
import Derived.Deep.QuietTactic
import Derived.BigQuiet
import Derived.LoopN
import Derived.Laws.EntriesVeiled
import Derived.Shelf.SlSortCmp.QuietGrown
import Derived.Deep.RegionHeld3
import Derived.Deep.DrawnRows
import Derived.Sort.Statements
import Derived.Shelf.SlSortCmp.NoneTotal
import Derived.OrdersHeld
import Derived.OrdersIn
import Derived.RangeFuncCalls
import Derived.OwnWalkIn
import Derived.Deep.CutBlock
import Derived.Deep.DeepCutAuto
import Derived.IntWalk
import Derived.Test.YtelfnmohpjkilaaGreatDoorProg
import Derived.Maps.OwnSet
import Derived.Maps.RangeWalk
import Derived.WideKeyEntry
import Derived.Deep.MidRow
import Derived.StillTailTactics
import Derived.Shelf.RegionOpen
import Derived.Deep.WholeRow
import Derived.Great.BuildSlice
import Derived.Great.Walk
import Derived.Test.YtelfnmohpjkilaaGreatDoorQ36
import Derived.Test.YtelfnmohpjkilaaGreatDoorQ46
import Derived.Test.YtelfnmohpjkilaaGreatDoorQ52
import Derived.Test.YtelfnmohpjkilaaGreatDoorQ53
namespace Go.Proofs.YtelfnmohpjkilaaGreatDoor
open Go.RowKit Go.Sort
set_option maxRecDepth 100000 in
set_option maxHeartbeats 64000000 in
theorem parts_of (hsan : ∀ W : World, Calls Tryz.prog 12 #[] W fun e w' => e = .returned (.bool true) ∧ Below W.heap.size W w') (op : Bool) (b0 : Nat) (A : Option Addr) (c : Nat) (ns : List Int) (s0 s1 s2 s3 s4 s5 : Int) (w : World) (hb0 : b0 < 4294967296) (hs : ns ≠ [] → Sl encZ4 1 w w.heap.size A ns) (hf : ∀ n ∈ ns, fits n) (hlc : ns.length ≤ c) (hlm : ns.length ≤ 9223372036854775807) :
    Calls Tryz.prog 10 #[.agg (vSh op b0 A ns.length c s0 s1 s2 s3 s4 s5)] w fun e w' => e = .returned (.bool true) ∧ Below w.heap.size w w' := by
  have htr := fun W (hW : Below w.heap.size w W) => tris_any op b0 A c ns s0 s1 s2 s3 s4 s5 W hb0 (fun h => ((hs h).below hW).more hW.size) hf hlc hlm
  obtain ⟨M, hM⟩ : ∃ M, M = ns.length := ⟨_, rfl⟩
  simp only [← hM] at htr ⊢
  have HT := hide htr
  have HS := hide hsan
  clear htr hsan hs hf hM hlc hlm
  go_enter Tryz.func10, Tryz.ntmps10
  go_upto_region 1 with fail
  obtain ⟨xb, hxb⟩ : ∃ g, g = w.heap.size := ⟨_, rfl⟩
  obtain ⟨W0, hW0⟩ : ∃ W, W = w.alloc (.cells (vSh op b0 A M c s0 s1 s2 s3 s4 s5) 26) := ⟨_, rfl⟩
  rw [← hW0, ← hxb]
  have hbx : Blk W0 xb 26 (vSh op b0 A M c s0 s1 s2 s3 s4 s5) := by rw [hW0, hxb]; exact Blk.new _ _ _
  have hB0 : Below w.heap.size w W0 := by rw [hW0]; exact (Below.refl _ w).alloc (Nat.le_refl _) _
  have H0 := hide (And.intro hbx hB0)
  clear hbx hB0 hW0 hxb
  go_upto_region 2 with (go_at_call 12; refine (HS.out W0).mono ?_; rintro e X ⟨rfl, hB⟩; have h1 := H0.out.1.below hB H0.out.1.lt; have h2 := H0.out.2.trans (hB.mono H0.out.2.size); have H1 := hide (And.intro h1 h2); clear h1 h2 hB)
  have x0 : X.cell? ⟨xb, 0, none⟩ = some (.bool op) := H1.out.1.cell 0
  have x1 : X.cell? ⟨xb, 1, none⟩ = some (.int .u32 b0) := H1.out.1.cell 1
  have x2 : X.cell? ⟨xb, 2, none⟩ = some (.slice A M c) := H1.out.1.cell 2
  have x3 : X.cell? ⟨xb, 3, none⟩ = some (.int .i64 s0) := H1.out.1.cell 3
  have x4 : X.cell? ⟨xb, 4, none⟩ = some (.int .i64 s1) := H1.out.1.cell 4
  have x5 : X.cell? ⟨xb, 5, none⟩ = some (.int .i64 s2) := H1.out.1.cell 5
  have x6 : X.cell? ⟨xb, 6, none⟩ = some (.int .i64 s3) := H1.out.1.cell 6
  have x7 : X.cell? ⟨xb, 7, none⟩ = some (.int .i64 s4) := H1.out.1.cell 7
  have x8 : X.cell? ⟨xb, 8, none⟩ = some (.int .i64 s5) := H1.out.1.cell 8
  have hxl := H1.out.1.lt
  go_upto_region 3 with (go_at_call 13; refine (HT.out X H1.out.2).mono ?_; rintro e Y ⟨v, rfl, L, ho, hl, hf, hB⟩; obtain ⟨TA, tc, rfl⟩ := ho.form; have h1 := ho.sl encT_len (Nat.le_refl _); have H2 := hide (And.intro h1 (And.intro hl (And.intro hf (H1.out.2.trans (hB.mono H1.out.2.size))))); clear ho hl hf hB h1)
  clear x0 x1 x2 x3 x4 x5 x6 x7 x8 hxl H1 H0
  obtain ⟨N, hN⟩ : ∃ n, n = L.length := ⟨_, rfl⟩
  have hN4 : N ≤ 401 := by rw [hN]; exact H2.out.2.1
  rw [← hN]
  have hsl := fun W (h : Below Y.heap.size Y W) => (H2.out.1.below h).more h.size
  obtain ⟨S, hS⟩ := ClsS.some (canonO L)
  have hnP := parts_few hS
  have hflP := parts_flat H2.out.2.2.1 hS.eqB
  have hcaP := partsT_canon (ts := L) hS.eqB
  obtain ⟨P, hP⟩ : ∃ P, P = partsT (canonO L) S (canonO L).length := ⟨_, rfl⟩
  rw [← hP] at hnP hflP hcaP
  rw [canonO_length, ← hN] at hnP
  rw [← hN] at hflP
  have kA : ∀ W, Below Y.heap.size Y W → Calls Tryz.prog 34 #[.slice TA N tc] W fun e w' => ∃ A c, e = .returned (.slice A P.length c) ∧ Pcs encT 9 58 28 w' W.heap.size (.slice A P.length c) P ∧ Below W.heap.size W w' := fun W h => by
    have k := parts4_any TA tc L W (hsl W h) (by omega) H2.out.2.2.1 S hS
    rw [← hN, ← hP] at k
    refine Calls.mono k ?_
    rintro e w' ⟨v, rfl, ho, hB⟩
    obtain ⟨A, c, rfl⟩ := ho.form
    exact ⟨A, c, rfl, ho.pcs, hB⟩
  have kB : ∀ W, Below Y.heap.size Y W → Calls Tryz.prog 35 #[.slice TA N tc] W fun e w' => ∃ A c, e = .returned (.slice A P.length c) ∧ Pcs encT 9 58 28 w' W.heap.size (.slice A P.length c) P ∧ Below W.heap.size W w' := fun W h => by
    have k := parts04_any TA tc L W (hsl W h) (by omega) H2.out.2.2.1 S hS
    rw [← hN, ← hP] at k
    refine Calls.mono k ?_
    rintro e w' ⟨v, rfl, ho, hB⟩
    obtain ⟨A, c, rfl⟩ := ho.form
    exact ⟨A, c, rfl, ho, hB⟩
  have kS : ∀ (B : Option Addr) (d : Nat) W m, m = P.flatten.length → Below Y.heap.size Y W → Sl encT 9 W W.heap.size B P.flatten → Calls Tryz.prog 32 #[.slice B m d, .slice TA N tc] W fun e w' => e = .returned (.bool true) ∧ Below W.heap.size W w' := fun B d W m hm h hb => by
    have k := meshSame_any B TA d tc P.flatten L W hb (hsl W h) (by rw [hflP.2.1]; omega) (by omega) hflP.2.2 H2.out.2.2.1
    rw [← hN, ← hm, hcaP, decide_eq_true (rfl : canonO L = canonO L)] at k; exact k
  obtain ⟨np, hnp⟩ : ∃ n, n = P.length := ⟨_, rfl⟩
  simp only [← hnp] at kA kB hnP
  have K := hide (And.intro kA (And.intro kB (And.intro kS (And.intro hflP (And.intro hnp trivial)))))
  have HZ := hide H2.out.2.2.2
  clear kA kB kS hflP hcaP hsl hP hN H2 hS hnp
  have t0 : ((np : Int) != (np : Int)) = false := by simp
  go_wp2_with (first
    | (go_at_call 35; refine (K.out.2.1 W1 J1.out.2).mono ?_; rintro e Z ⟨BA, bc, rfl, hp, hB⟩; have J2 := hide (And.intro (J1.out.1.below hB (Nat.le_refl _)) (And.intro hp (J1.out.2.trans (hB.mono J1.out.2.size)))); clear hp hB)
    | (go_at_call 34; refine (K.out.1 Y (Below.refl _ Y)).mono ?_; rintro e W1 ⟨AA, ac, rfl, hp, hB⟩; have J1 := hide (And.intro hp hB); clear hp hB))
  go_loopw [7, 23] (fun av kv wr => ∃ k m : Nat, k ≤ np ∧ kv = .int .i64 k ∧ Own encT 9 58 wr Z.heap.size av m (P.take k).flatten ∧ m ≤ 401 * k ∧ Below Z.heap.size Z wr) (fun _ kv _ => np - (intOf kv).toNat)
  case atStart => exact ⟨0, 0, by omega, rfl, Own.nil, by omega, Below.refl _ Z⟩
  case round =>
    obtain ⟨k, m, hk, rfl, hO, hm, hB⟩ := hrel
    obtain ⟨V, rfl⟩ : ∃ x, x = wr := ⟨_, rfl⟩
    obtain ⟨OA, oc, rfl⟩ := hO.form
    by_cases hlt : k < np
    · have i1 : (k : Int) < (np : Int) := by omega
      obtain ⟨p, hp⟩ : ∃ p, P[k]? = some p := ⟨_, List.getElem?_eq_getElem (by rw [← K.out.2.2.2.2.1]; exact hlt)⟩
      have hpm := K.out.2.2.2.1.1 p (List.mem_of_getElem? hp)
      obtain ⟨ba, oa, A1, c1, hA1, hl1, x0, ho1⟩ := J2.out.1.piece hp
      obtain ⟨bb, ob, A2, c2, hA2, hl2, x1, ho2⟩ := J2.out.2.1.piece hp
      subst hA1 hA2
      have z0 := (hB.cell (p := ⟨ba, oa + k, none⟩) hl1).trans x0
      have z1 := (hB.cell (p := ⟨bb, ob + k, none⟩) hl2).trans x1
      have hla : ba < V.heap.size := Nat.lt_of_lt_of_le hl1 hB.size
      have hlb : bb < V.heap.size := Nat.lt_of_lt_of_le hl2 hB.size
      have htk : (P.take (k + 1)).flatten = (P.take k).flatten ++ p := by rw [List.take_add_one, hp, List.flatten_append]; simp
      obtain ⟨pl, hpl⟩ : ∃ n, n = p.length := ⟨_, rfl⟩
      rw [← hpl] at x0 x1 z0 z1 ho1 ho2 hpm
      have hq : ∀ W, Below Z.heap.size Z W → Calls Tryz.prog 29 #[.slice A1 pl c1, .slice A2 pl c2] W fun e w' => e = .returned (.bool true) ∧ ∃ k, w' = W.drewN k := fun W h => by
        have := equal_any A1 A2 c1 c2 p p W _ _ ((ho1.sl encT_len (Nat.le_refl _)).below h) ((ho2.sl encT_len (Nat.le_refl _)).below h) (by omega) (by omega) hpm.2 hpm.2
        rw [← hpl, decide_eq_true (rfl : p = p)] at this; exact this
      have HQ := hide (And.intro hq (And.intro hB (And.intro ho1 (And.intro hpm (And.intro htk (And.intro hpl x0))))))
      have HO := hide hO
      clear hO
      clear hq hB ho1 ho2 hpm htk hpl x0 x1 hp hl2
      go_upto_region 10 with fail
      go_still_tail 8, (by kernel_rfl)
      repeat still_step
      change wpList _ _ _ _ _ V.drew
      go_upto_region 12 with (go_at_call 29; refine (HQ.out.1 V.drew HQ.out.2.1.drew).mono ?_; rintro e W3 ⟨rfl, kd, hw⟩; have H3 := hide (show Below Z.heap.size Z W3 by rw [hw]; exact below_drewN HQ.out.2.1.drew kd); have H4 := hide (show W3.heap = V.heap by rw [hw]; rfl); clear hw)
      clear z0 z1
      have z0 := (H3.out.cell (p := ⟨ba, oa + k, none⟩) hl1).trans HQ.out.2.2.2.2.2.2
      have hla3 : ba < W3.heap.size := by rw [H4.out]; exact hla
      have hz3 := H3.out.size
      have hO3 : Own encT 9 58 W3 Z.heap.size (.slice OA m oc) m (P.take k).flatten := by
        have h := HO.out
        exact ⟨h.1, by have := h.2; unfold World.ownsRow at this ⊢; rw [H4.out]; exact this⟩
      have HO3 := hide hO3
      clear hO3
      go_wp2_with (at_builtin; refine wpList_appendS rfl _ _ _ rfl Tryz.underlying28 infoT rfl (by omega) encT_len encT_one rfl HO3.out A1 c1 Z.heap.size p (by rw [← HQ.out.2.2.2.2.2.1]; rfl) ((HQ.out.2.2.1.sl encT_len (Nat.le_refl _)).below H3.out) (by rw [← HQ.out.2.2.2.2.2.1]; have := HQ.out.2.2.2.1.1; unfold maxLen; omega) (by rw [← HQ.out.2.2.2.2.2.1]; have := HQ.out.2.2.2.1.1; omega) hz3 ?_; intro v7 w7 hown7 hg7 hB7 hat7; rw [← HQ.out.2.2.2.2.2.1, ← HQ.out.2.2.2.2.1] at hown7; have H7 := hide (And.intro hown7 (H3.out.trans hB7)); clear hown7 hg7 hB7 hat7)
      go_roundw
      case rel => exact ⟨k + 1, m + pl, by omega, by go_num, H7.out.1, by have := HQ.out.2.2.2.1.1; omega, H7.out.2⟩
      case measure => (simp [intOf]; try omega)
    · obtain rfl : k = np := by omega
      have i1 : ¬ (k : Int) < (k : Int) := by omega
      have hPk : P.take k = P := by rw [K.out.2.2.2.2.1, List.take_length]
      rw [hPk] at hO
      have hYV := J2.out.2.2.trans (hB.mono J2.out.2.2.size)
      have HE := hide (And.intro (K.out.2.2.1 OA oc V m hO.1 hYV (hO.sl encT_len (Nat.le_refl _))) hYV)
      clear hO hB hPk hYV
      go_wp2_with (go_at_call 32; refine HE.out.1.mono ?_; rintro e W9 ⟨rfl, hB9⟩; have H9 := hide (HZ.out.trans ((HE.out.2.trans (hB9.mono HE.out.2.size)).mono HZ.out.size)); clear hB9)
      go_ret
      exact ⟨rfl, H9.out⟩
end Go.Proofs.YtelfnmohpjkilaaGreatDoor
