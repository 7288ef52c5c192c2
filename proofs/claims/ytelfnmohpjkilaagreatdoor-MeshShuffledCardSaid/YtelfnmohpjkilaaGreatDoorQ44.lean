/- Spo Spw. -/
import Derived.WalkKit
import Derived.WalkSpells
import Derived.WalkLawsBesides
import Derived.Laws.OwnMore
import Derived.Deep.AppendLies
import Derived.Deep.Draws
import Derived.Maps.AppendAt
import Derived.OwnWalk
import Derived.Sort.Grow
import Derived.Shelf.GgSortFunc.RowK
import Derived.RangeFuncNested
import Derived.RangeFuncBox
import Derived.Test.YtelfnmohpjkilaaGreatDoorRows
import Derived.Handy
import Derived.Deep.QuietTactic
import Derived.BigQuiet
import Derived.LoopN
import Derived.Laws.EntriesVeiled
import Derived.Shelf.SlSortCmp.QuietGrown
import Derived.Deep.RegionHeld3
import Derived.Deep.DrawnRows
import Derived.Maps.Own
import Derived.Maps.Views
import Derived.DeepKeys4
import Derived.DeepKeys
import Derived.Laws.StructEq
import Derived.Sort.Statements
import Derived.Shelf.SlSortCmp.NoneTotal
import Derived.OrdersHeld
import Derived.OrdersIn
import Derived.RangeFuncCalls
import Derived.OwnWalkIn
import Derived.Deep.CutBlock
import Derived.Deep.DeepCutAuto
import Derived.Test.YtelfnmohpjkilaaGreatDoorProg
import Derived.StillTailTactics
import Derived.Test.YtelfnmohpjkilaaGreatDoorQ22
import Derived.Test.YtelfnmohpjkilaaGreatDoorQ42
namespace Go.Proofs.YtelfnmohpjkilaaGreatDoor
open Go.RowKit Go.Sort
theorem FitL.set {L : List Tri} (h : FitL L) (i : Nat) {y : Tri} (hy : fitsT y) : FitL (L.set i y) := fun t ht => by
  rcases List.mem_or_eq_of_mem_set ht with h1 | h1
  · exact h t h1
  · rw [h1]; exact hy
theorem Own.cutN {α : Type} {enc : α → List Value} {k : Nat} {e : TypeId} {w : World} {base n cap m : Nat} {A : Option Addr} {xs : List α} (hk : ∀ x, (enc x).length = k) (h : Own enc k e w base (.slice A n cap) n xs) (hm : m ≤ n) :
    Own enc k e w base (.slice A m cap) m (xs.take m) := by
  have hn := h.1
  refine ⟨by rw [List.length_take]; omega, ?_⟩
  obtain ⟨h0, h1⟩ := h.2
  have hl2 : ((xs.take m).flatMap enc).length = m * k := by rw [flat_len hk, List.length_take, Nat.min_eq_left (by omega)]
  refine ⟨hl2, ?_⟩
  rcases h1 with ⟨h1, h2⟩ | ⟨g', cap', cur, h1, hb, hheap, hnc, hcm, hsz, htake⟩
  · cases h1
    obtain rfl : m = 0 := by omega
    exact .inl ⟨rfl, by simp⟩
  · cases h1
    refine .inr ⟨g', cap, cur, rfl, hb, hheap, by omega, hcm, hsz, ?_⟩
    have e1 : ((xs.take m).flatMap enc) = (xs.flatMap enc).take (m * k) := by
      have := congrArg (fun l => (l.flatMap enc).take (m * k)) (List.take_append_drop m xs)
      simp only [List.flatMap_append] at this
      rw [← this, List.take_left' hl2]
    rw [e1, ← htake, List.take_take]
    congr 1
    exact (Nat.min_eq_left (Nat.mul_le_mul_right k (by omega))).symm
theorem putC_fits {t : Tri} (h : fitsT t) {p : Pt} (hp : fitsP p) (j : Nat) : fitsT (putC t j p) := by
  unfold putC
  split
  · exact ⟨hp, h.2.1, h.2.2⟩
  · split
    · exact ⟨h.1, hp, h.2.2⟩
    · exact ⟨h.1, h.2.1, hp⟩
theorem below_setW {B : Nat} {a w : World} {g : Nat} (h : Below B a w) (hg : B ≤ g) : ∀ (o : Nat) (vs : List Value), Below B a (setW w g o vs)
  | _, [] => h
  | o, v :: vs => below_setW (h.setCell (p := ⟨g, o, none⟩) hg v) hg (o + 1) vs
end Go.Proofs.YtelfnmohpjkilaaGreatDoor
namespace Go.Proofs.YtelfnmohpjkilaaGreatDoor
open Go.RowKit Go.Sort
set_option maxRecDepth 100000 in
set_option maxHeartbeats 64000000 in
theorem spoiled_any (A : Option Addr) (c : Nat) (L : List Tri) (q0 q1 q2 : Int) (w : World) (hs : Sl encT 9 w w.heap.size A L) (hl : L.length ≤ 100000) (hf : FitL L) :
    Calls Tryz.prog 28 #[.slice A L.length c, .agg #[.int .i64 q0, .int .i64 q1, .int .i64 q2]] w fun e w' => ∃ v, e = .returned v ∧ SpoR w w' L.length v := by
  obtain ⟨N, hN⟩ : ∃ N, N = L.length := ⟨_, rfl⟩
  rw [← hN] at hl ⊢
  have HS := hide (And.intro hs (And.intro hf hN))
  clear hs hf hN
  go_enter Tryz.func28, Tryz.ntmps28
  go_upto_region 1 with fail
  obtain ⟨qb, hqb⟩ : ∃ g, g = w.heap.size := ⟨_, rfl⟩
  obtain ⟨W0, hW0⟩ : ∃ W, W = w.alloc (.cells #[.int .i64 q0, .int .i64 q1, .int .i64 q2] 49) := ⟨_, rfl⟩
  rw [← hW0, ← hqb]
  have hbq : Blk W0 qb 49 #[.int .i64 q0, .int .i64 q1, .int .i64 q2] := by rw [hW0, hqb]; exact Blk.new _ _ _
  have hB0 : Below w.heap.size w W0 := by rw [hW0]; exact (Below.refl _ w).alloc (Nat.le_refl _) _
  have hz0 : qb < W0.heap.size := hbq.lt
  have hs0 : Sl encT 9 (W0.alloc (.cells #[] 58)) (W0.heap.size + 1) A L := (HS.out.1.below (hB0.alloc hB0.size (.cells #[] 58))).more (by have := hB0.size; omega)
  have ho0 : Own encT 9 58 (W0.alloc (.cells #[] 58)) W0.heap.size (.slice (some ⟨W0.heap.size, 0, none⟩) 0 0) 0 ([] : List Tri) := ⟨rfl, by simpa using World.ownsRow_lit (e := 58) (size := 9) W0 #[] 0 (Nat.le_refl _) (by unfold maxLen; omega) (by simp)⟩
  have H0 := hide (And.intro hbq (And.intro hB0 (And.intro hs0 (And.intro ho0 hz0))))
  clear hbq hB0 hs0 ho0 hz0 hW0 hqb
  go_upto_region 2 with (at_builtin; refine wpList_appendS rfl _ _ _ rfl Tryz.underlying28 infoT rfl (by omega) encT_len encT_one rfl H0.out.2.2.2.1 A c (W0.heap.size + 1) L (by rw [← HS.out.2.2]; rfl) H0.out.2.2.1 (by rw [← HS.out.2.2]; unfold maxLen; omega) (by rw [← HS.out.2.2]; omega) (by simp) ?_; intro v1 X ho1 hg1 hB1 hat1; have ho1' : Own encT 9 58 X W0.heap.size v1 N L := (by have h := ho1; rw [List.nil_append, Nat.zero_add, ← HS.out.2.2] at h; exact h); have hBX := (((Below.refl _ W0).alloc (Nat.le_refl _) _).trans hB1); have H1 := hide (And.intro ho1' hBX); clear ho1 ho1' hg1 hB1 hat1 hBX)
  by_cases hN0 : N = 0
  · have hR : SpoR w X N v1 := ⟨L, by
      have h := H1.out.1.base_le H0.out.2.1.size
      rw [HS.out.2.2] at h
      exact h, by have := HS.out.2.2; omega, HS.out.2.1, H0.out.2.1.trans (H1.out.2.mono H0.out.2.1.size)⟩
    obtain ⟨A1, c1, rfl⟩ := H1.out.1.form
    have HR := hide hR
    have i1 : (N : Int) = 0 := by omega
    clear hR hN0
    go_wp2
    go_ret
    exact ⟨_, rfl, HR.out⟩
  have hLne : L ≠ [] := fun h => hN0 (by rw [HS.out.2.2, h]; rfl)
  obtain ⟨g, c1, rfl, hge, hgl⟩ := H1.out.1.at hLne
  have hNp : 0 < N := by omega
  have i1 : ¬ (N : Int) = 0 := by omega
  have hbq := H0.out.1.below H1.out.2 H0.out.2.2.2.2
  have hk := modC_bound q1 N (by omega)
  have hj := modC_bound q2 N (by omega)
  have hs12 := modC_bound q0 12 (by omega)
  obtain ⟨k, hk2⟩ : ∃ m : Nat, (m : Int) = modC q1 N := ⟨(modC q1 N).toNat, by omega⟩
  obtain ⟨j, hj2⟩ : ∃ m : Nat, (m : Int) = modC q2 N := ⟨(modC q2 N).toNat, by omega⟩
  obtain ⟨s, hs2⟩ : ∃ m : Nat, (m : Int) = modC q0 12 := ⟨(modC q0 12).toNat, by omega⟩
  have m1 := mod_any q1 N (by omega) (by omega) X
  have m2 := mod_any q2 N (by omega) (by omega) X
  have m3 := fun W => mod_any q0 12 (by omega) (by omega) W
  rw [← hk2] at m1 hk
  rw [← hj2] at m2 hj
  simp only [← hs2] at m3
  rw [← hs2] at hs12
  have hkN : k < N := by omega
  have hjN : j < N := by omega
  have hs12' : s < 12 := by omega
  obtain ⟨t, ht⟩ : ∃ t, L[k]? = some t := ⟨_, List.getElem?_eq_getElem (by rw [← HS.out.2.2]; exact hkN)⟩
  obtain ⟨u, hu⟩ : ∃ t, L[j]? = some t := ⟨_, List.getElem?_eq_getElem (by rw [← HS.out.2.2]; exact hjN)⟩
  have hft := HS.out.2.1 t (List.mem_of_getElem? ht)
  have hfu := HS.out.2.1 u (List.mem_of_getElem? hu)
  have x0 : X.cell? ⟨qb, 0, none⟩ = some (.int .i64 q0) := hbq.cell 0
  have x1 : X.cell? ⟨qb, 1, none⟩ = some (.int .i64 q1) := hbq.cell 1
  have x2 : X.cell? ⟨qb, 2, none⟩ = some (.int .i64 q2) := hbq.cell 2
  obtain ⟨⟨t1, t2, t3⟩, ⟨t4, t5, t6⟩, t7, t8, t9⟩ := t
  obtain ⟨⟨u1, u2, u3⟩, ⟨u4, u5, u6⟩, u7, u8, u9⟩ := u
  have hqlt := hbq.lt
  have HT := hide (And.intro ht (And.intro hu (And.intro hft hfu)))
  have HMd := hide (And.intro m1 (And.intro m2 m3))
  have HN := hide (And.intro hge (And.intro hgl hbq))
  clear ht hu hft hfu m1 m2 m3 hk hj hk2 hj2 hs2 hs12 hbq hge hgl hLne hN0
  go_upto_region 5 with (go_at_call 63; refine HMd.out.1.mono ?_; rintro e W ⟨rfl, hW⟩; obtain rfl : X = W := hW.symm)
  go_upto_region 6 with (go_at_call 63; refine HMd.out.2.1.mono ?_; rintro e W ⟨rfl, hW⟩; obtain rfl : X = W := hW.symm)
  obtain ⟨b0, o0, hA, hbb, g0, g1, g2, g3, g4, g5, g6, g7, g8⟩ := (H1.out.1.sl encT_len (Nat.le_refl _)).tri HT.out.1
  cases hA
  simp only [Nat.zero_add] at g0 g1 g2 g3 g4 g5 g6 g7 g8
  go_upto_region 7 with fail
  clear g0 g1 g2 g3 g4 g5 g6 g7 g8 x1 x2 hbb
  obtain ⟨tb, htb⟩ : ∃ g, g = X.heap.size := ⟨_, rfl⟩
  obtain ⟨Z, hZ⟩ : ∃ W, W = X.alloc (.cells #[.int .i64 t1, .int .i64 t2, .int .i64 t3, .int .i64 t4, .int .i64 t5, .int .i64 t6, .int .i64 t7, .int .i64 t8, .int .i64 t9] 58) := ⟨_, rfl⟩
  rw [← hZ, ← htb]
  have hbt : Blk Z tb 58 #[.int .i64 t1, .int .i64 t2, .int .i64 t3, .int .i64 t4, .int .i64 t5, .int .i64 t6, .int .i64 t7, .int .i64 t8, .int .i64 t9] := by rw [hZ, htb]; exact Blk.new _ _ _
  have hOZ : Own encT 9 58 Z W0.heap.size (.slice (some ⟨g, 0, none⟩) N c1) N L := by rw [hZ]; exact H1.out.1.alloc _
  have hBZ : Below W0.heap.size W0 Z := by rw [hZ]; exact H1.out.2.alloc H1.out.2.size _
  have hqZ : Blk Z qb 49 #[.int .i64 q0, .int .i64 q1, .int .i64 q2] := by rw [hZ]; exact HN.out.2.2.alloc _
  have hgt : g ≠ tb := by have := HN.out.2.1; omega
  have x0 : Z.cell? ⟨qb, 0, none⟩ = some (.int .i64 q0) := hqZ.cell 0
  have hqlt := hqZ.lt
  have hWz : w.heap.size ≤ W0.heap.size := H0.out.2.1.size
  have htbz : W0.heap.size ≤ tb := by rw [htb]; exact H1.out.2.size
  have HZ := hide (And.intro hOZ (And.intro hbt (And.intro hBZ (And.intro hgt (And.intro hWz htbz)))))
  clear hbt hOZ hBZ hqZ hgt hZ htb hWz htbz
  go_upto_region 8 with (go_at_call 63; refine (HMd.out.2.2 Z).mono ?_; rintro e W ⟨rfl, hW⟩; obtain rfl : Z = W := hW.symm)
  clear x0 hqlt
  have hfin : ∀ (W : World) (v : Value) (M : List Tri) (m : Nat), Own encT 9 58 W W0.heap.size v m M → M.length ≤ N + 1 → FitL M → Below W0.heap.size W0 W → SpoR w W N v := fun W v M m h1 h2 h3 h4 => ⟨M, by
    have h := h1.base_le HZ.out.2.2.2.2.1
    rw [h.1] at h
    exact h, h2, h3, H0.out.2.1.trans (h4.mono HZ.out.2.2.2.2.1)⟩
  have HFn := hide hfin
  clear hfin
  have hc : s = 0 ∨ s = 1 ∨ s = 2 ∨ s = 3 ∨ s = 4 ∨ s = 5 ∨ s = 6 ∨ s = 7 ∨ s = 8 ∨ s = 9 ∨ s = 10 ∨ s = 11 := by omega
  clear hs12'
  rcases hc with rfl | rfl | rfl | rfl | rfl | rfl | rfl | rfl | rfl | rfl | rfl | rfl
  · have hcap := HZ.out.1.place.1
    have hzZ := HZ.out.2.2.1.size
    have htk : (L.take k).length = k := by rw [List.length_take]; have := HS.out.2.2; omega
    obtain ⟨k1, hk1⟩ : ∃ m, m = k + 1 := ⟨_, rfl⟩
    have e1 : (k : Int) + 1 = (k1 : Int) := by omega
    have hk1N : k1 ≤ N := by omega
    have hkN2 : k ≤ N := by omega
    have hrunH : ∀ V : World, (Instr.slice 28 (.slice (some ⟨g, 0, none⟩) N c1) none (some (.int .i64 k)) none).run Tryz.prog V = .ok (.slice (some ⟨g, 0, none⟩) k c1) V := fun V => run_cutH Tryz.underlying28 Tryz.sizeOf58 hkN2 hcap V
    have hrunL : ∀ V : World, (Instr.slice 28 (.slice (some ⟨g, 0, none⟩) N c1) (some (.int .i64 k1)) none none).run Tryz.prog V = .ok (.slice (cutA (some ⟨g, 0, none⟩) c1 k1 9) (N - k1) (c1 - k1)) V := fun V => run_cut Tryz.underlying28 Tryz.sizeOf58 hk1N V
    have hsT : Sl encT 9 Z Z.heap.size (some ⟨g, 0, none⟩) (L.take k) := (HZ.out.1.sl encT_len (Nat.le_refl _)).take8 k
    have hdl : (L.drop k1).length = N - k1 := by rw [List.length_drop, ← HS.out.2.2]
    have HC := hide (And.intro hsT (And.intro htk (And.intro hdl hcap)))
    clear hsT htk hdl hk1 hcap
    go_upto_region 11 with (at_builtin; refine wpList_appendS rfl _ _ _ rfl Tryz.underlying28 infoT rfl (by omega) encT_len encT_one rfl (show Own encT 9 58 Z W0.heap.size (.slice none 0 0) 0 ([] : List Tri) from Own.nil) (some ⟨g, 0, none⟩) c1 Z.heap.size (L.take k) (by rw [HC.out.2.1]; rfl) HC.out.1 (by rw [HC.out.2.1]; unfold maxLen; omega) (by rw [HC.out.2.1]; omega) hzZ ?_; intro v5 w5 ho5 hg5 hB5 hat5; have ho5b : Own encT 9 58 w5 W0.heap.size v5 k (L.take k) := (by have h := ho5; rw [List.nil_append, Nat.zero_add, HC.out.2.1] at h; exact h); obtain ⟨A5, c5, rfl⟩ := ho5b.form; have hO5 := HZ.out.1.kept hg5 (.inr (show (some g : Option Nat) ≠ none from fun h => by cases h)); have hs5 := (hO5.sl encT_len (Nat.le_refl _)).cut (i := k1) (by rw [← HS.out.2.2]; exact hk1N) (by rw [← HS.out.2.2]; exact HC.out.2.2.2); have H5 := hide (And.intro ho5b (And.intro hs5 (HZ.out.2.2.1.trans hB5))); clear ho5 ho5b hO5 hs5 hg5 hB5 hat5)
    have hz5 := H5.out.2.2.size
    go_wp2_with (at_builtin; refine wpList_appendS rfl _ _ _ rfl Tryz.underlying28 infoT rfl (by omega) encT_len encT_one rfl H5.out.1 (cutA (some ⟨g, 0, none⟩) c1 k1 9) (c1 - k1) w5.heap.size (L.drop k1) (by rw [HC.out.2.2.1]; rfl) H5.out.2.1 (by rw [HC.out.2.2.1]; unfold maxLen; omega) (by rw [HC.out.2.2.1]; omega) hz5 ?_; intro v6 w6 ho6 hg6 hB6 hat6; have h8 := HFn.out w6 v6 (L.take k ++ L.drop k1) _ ho6 (by rw [List.length_append, HC.out.2.1, HC.out.2.2.1]; omega) (FitL.app (fun t ht => HS.out.2.1 t (List.mem_of_mem_take ht)) (fun t ht => HS.out.2.1 t (List.mem_of_mem_drop ht))) (H5.out.2.2.trans hB6); have H8 := hide h8; clear h8 ho6 hg6 hB6 hat6)
    go_ret
    exact ⟨_, rfl, H8.out⟩
  · have x0 : Z.cell? ⟨tb, 0, none⟩ = some (.int .i64 t1) := HZ.out.2.1.cell 0
    have x1 : Z.cell? ⟨tb, 1, none⟩ = some (.int .i64 t2) := HZ.out.2.1.cell 1
    have x2 : Z.cell? ⟨tb, 2, none⟩ = some (.int .i64 t3) := HZ.out.2.1.cell 2
    have x3 : Z.cell? ⟨tb, 3, none⟩ = some (.int .i64 t4) := HZ.out.2.1.cell 3
    have x4 : Z.cell? ⟨tb, 4, none⟩ = some (.int .i64 t5) := HZ.out.2.1.cell 4
    have x5 : Z.cell? ⟨tb, 5, none⟩ = some (.int .i64 t6) := HZ.out.2.1.cell 5
    have x6 : Z.cell? ⟨tb, 6, none⟩ = some (.int .i64 t7) := HZ.out.2.1.cell 6
    have x7 : Z.cell? ⟨tb, 7, none⟩ = some (.int .i64 t8) := HZ.out.2.1.cell 7
    have x8 : Z.cell? ⟨tb, 8, none⟩ = some (.int .i64 t9) := HZ.out.2.1.cell 8
    obtain ⟨b0, o0, hA, hbb, g0, g1, g2, g3, g4, g5, g6, g7, g8⟩ := (HZ.out.1.sl encT_len (Nat.le_refl _)).tri HT.out.1
    cases hA
    simp only [Nat.zero_add] at g0 g1 g2 g3 g4 g5 g6 g7 g8
    obtain ⟨cs, hcs⟩ := HZ.out.1.cells g rfl
    have hbg : Blk Z g 58 cs := hcs
    have f0 : Z.frozen? ⟨g, k * 9, none⟩ = false := hbg.frozen _
    have f1 : Z.frozen? ⟨g, k * 9 + 1, none⟩ = false := hbg.frozen _
    have f2 : Z.frozen? ⟨g, k * 9 + 2, none⟩ = false := hbg.frozen _
    have f3 : Z.frozen? ⟨g, k * 9 + 3, none⟩ = false := hbg.frozen _
    have f4 : Z.frozen? ⟨g, k * 9 + 4, none⟩ = false := hbg.frozen _
    have f5 : Z.frozen? ⟨g, k * 9 + 5, none⟩ = false := hbg.frozen _
    have f6 : Z.frozen? ⟨g, k * 9 + 6, none⟩ = false := hbg.frozen _
    have f7 : Z.frozen? ⟨g, k * 9 + 7, none⟩ = false := hbg.frozen _
    have f8 : Z.frozen? ⟨g, k * 9 + 8, none⟩ = false := hbg.frozen _
    have hgl := hbg.lt
    have htl := HZ.out.2.1.lt
    clear hcs hbg
    have h8 := fun W (h : W = setW Z g (k * 9) (encT ((t1, t2, t3), (t7, t8, t9), t4, t5, t6))) => HFn.out W (.slice (some ⟨g, 0, none⟩) N c1) (L.set k ((t1, t2, t3), (t7, t8, t9), t4, t5, t6)) N (by rw [h]; exact HZ.out.1.setW encT_len (by rw [← HS.out.2.2]; exact hkN) ((t1, t2, t3), (t7, t8, t9), t4, t5, t6)) (by rw [List.length_set]; have := HS.out.2.2; omega) (HS.out.2.1.set k ⟨HT.out.2.2.1.1, HT.out.2.2.1.2.2, HT.out.2.2.1.2.1⟩) (by rw [h]; exact below_setW HZ.out.2.2.1 (by have := (HZ.out.1.blk g rfl).1; omega) _ _)
    have H8 := hide h8
    clear h8
    go_wp2
    go_ret
    exact ⟨_, rfl, H8.out _ rfl⟩
  · have hzZ := HZ.out.2.2.1.size
    obtain ⟨b0, o0, hA, hbb, g0, g1, g2, g3, g4, g5, g6, g7, g8⟩ := (HZ.out.1.sl encT_len (Nat.le_refl _)).tri HT.out.2.1
    cases hA
    simp only [Nat.zero_add] at g0 g1 g2 g3 g4 g5 g6 g7 g8
    go_wp2_with (at_builtin; refine wpList_append1 rfl _ _ _ rfl Tryz.underlying28 infoT rfl (by omega) encT_len encT_one rfl (HZ.out.1.alloc _) Z.heap.size 1 ((u1, u2, u3), (u4, u5, u6), u7, u8, u9) rfl (Blk.new _ _ _) (by unfold maxLen; omega) (by omega) (by simp; omega) ?_; intro g5 cap5 w5 hown5 hg5 hB5 hat5 hgb5 hlt5; have h8 := HFn.out w5 _ (L ++ [((u1, u2, u3), (u4, u5, u6), u7, u8, u9)]) (N + 1) hown5 (by rw [List.length_append]; have := HS.out.2.2; simp; omega) (HS.out.2.1.app (fun t ht => by rw [List.mem_singleton] at ht; subst ht; exact HT.out.2.2.2)) ((HZ.out.2.2.1.alloc hzZ _).trans hB5); have H8 := hide h8; clear h8 hown5 hg5 hB5 hat5 hgb5 hlt5)
    go_ret
    exact ⟨_, rfl, H8.out⟩
  · obtain ⟨b0, o0, hA, hbb, g0, g1, g2, g3, g4, g5, g6, g7, g8⟩ := (HZ.out.1.sl encT_len (Nat.le_refl _)).tri HT.out.1
    cases hA
    simp only [Nat.zero_add] at g0 g1 g2 g3 g4 g5 g6 g7 g8
    obtain ⟨cs, hcs⟩ := HZ.out.1.cells g rfl
    have hbg : Blk Z g 58 cs := hcs
    have f0 : Z.frozen? ⟨g, k * 9, none⟩ = false := hbg.frozen _
    have f1 : Z.frozen? ⟨g, k * 9 + 1, none⟩ = false := hbg.frozen _
    have f2 : Z.frozen? ⟨g, k * 9 + 2, none⟩ = false := hbg.frozen _
    have hgl := hbg.lt
    have htl := HZ.out.2.1.lt
    clear hcs hbg
    obtain ⟨b1, o1, hA, hbb1, k0, k1, k2, k3, k4, k5, k6, k7, k8⟩ := (HZ.out.1.sl encT_len (Nat.le_refl _)).tri HT.out.2.1
    cases hA
    simp only [Nat.zero_add] at k0 k1 k2 k3 k4 k5 k6 k7 k8
    have jli : (j : Int) < (N : Int) := by omega
    have kli : (k : Int) < (N : Int) := by omega
    have hput : HFn = HFn := rfl
    have h8 := fun W (h : W = ((Z.drew.setCell ⟨g, k * 9 + 0 * 3, none⟩ (.int .i64 u4)).setCell ⟨g, k * 9 + 0 * 3 + 1, none⟩ (.int .i64 u5)).setCell ⟨g, k * 9 + 0 * 3 + 2, none⟩ (.int .i64 u6)) => HFn.out W (.slice (some ⟨g, 0, none⟩) N c1) (L.set k (putC ((t1, t2, t3), (t4, t5, t6), t7, t8, t9) 0 (u4, u5, u6))) N (by rw [h]; exact HZ.out.1.drew.putP HT.out.1 (by omega) (u4, u5, u6)) (by rw [List.length_set]; have := HS.out.2.2; omega) (HS.out.2.1.set k (putC_fits HT.out.2.2.1 HT.out.2.2.2.2.1 _)) (by rw [h]; exact ((HZ.out.2.2.1.drew.setCell (p := ⟨g, _, none⟩) (HZ.out.1.blk g rfl).1 _).setCell (p := ⟨g, _, none⟩) (HZ.out.1.blk g rfl).1 _).setCell (p := ⟨g, _, none⟩) (HZ.out.1.blk g rfl).1 _)
    have H8 := hide h8
    clear h8 hput
    go_upto_region 17 with fail
    go_still_tail 9, (by kernel_rfl)
    repeat still_step
    change wpList _ _ _ _ _ Z.drew
    go_wp2
    go_ret
    exact ⟨_, rfl, H8.out _ rfl⟩
  · obtain ⟨b0, o0, hA, hbb, g0, g1, g2, g3, g4, g5, g6, g7, g8⟩ := (HZ.out.1.sl encT_len (Nat.le_refl _)).tri HT.out.1
    cases hA
    simp only [Nat.zero_add] at g0 g1 g2 g3 g4 g5 g6 g7 g8
    obtain ⟨cs, hcs⟩ := HZ.out.1.cells g rfl
    have hbg : Blk Z g 58 cs := hcs
    have f0 : Z.frozen? ⟨g, k * 9 + 3, none⟩ = false := hbg.frozen _
    have f1 : Z.frozen? ⟨g, k * 9 + 4, none⟩ = false := hbg.frozen _
    have f2 : Z.frozen? ⟨g, k * 9 + 5, none⟩ = false := hbg.frozen _
    have hgl := hbg.lt
    have htl := HZ.out.2.1.lt
    clear hcs hbg
    have x0 : Z.cell? ⟨tb, 0, none⟩ = some (.int .i64 t1) := HZ.out.2.1.cell 0
    have x1 : Z.cell? ⟨tb, 1, none⟩ = some (.int .i64 t2) := HZ.out.2.1.cell 1
    have x2 : Z.cell? ⟨tb, 2, none⟩ = some (.int .i64 t3) := HZ.out.2.1.cell 2
    have kli : (k : Int) < (N : Int) := by omega
    have hput : HFn = HFn := rfl
    have h8 := fun W (h : W = ((Z.drew.setCell ⟨g, k * 9 + 1 * 3, none⟩ (.int .i64 t1)).setCell ⟨g, k * 9 + 1 * 3 + 1, none⟩ (.int .i64 t2)).setCell ⟨g, k * 9 + 1 * 3 + 2, none⟩ (.int .i64 t3)) => HFn.out W (.slice (some ⟨g, 0, none⟩) N c1) (L.set k (putC ((t1, t2, t3), (t4, t5, t6), t7, t8, t9) 1 (t1, t2, t3))) N (by rw [h]; exact HZ.out.1.drew.putP HT.out.1 (by omega) (t1, t2, t3)) (by rw [List.length_set]; have := HS.out.2.2; omega) (HS.out.2.1.set k (putC_fits HT.out.2.2.1 HT.out.2.2.1.1 _)) (by rw [h]; exact ((HZ.out.2.2.1.drew.setCell (p := ⟨g, _, none⟩) (HZ.out.1.blk g rfl).1 _).setCell (p := ⟨g, _, none⟩) (HZ.out.1.blk g rfl).1 _).setCell (p := ⟨g, _, none⟩) (HZ.out.1.blk g rfl).1 _)
    have H8 := hide h8
    clear h8 hput
    go_upto_region 19 with fail
    go_still_tail 6, (by kernel_rfl)
    repeat still_step
    change wpList _ _ _ _ _ Z.drew
    go_wp2
    go_ret
    exact ⟨_, rfl, H8.out _ rfl⟩
  · have hzZ := HZ.out.2.2.1.size
    have x0 : Z.cell? ⟨tb, 0, none⟩ = some (.int .i64 t1) := HZ.out.2.1.cell 0
    have x1 : Z.cell? ⟨tb, 1, none⟩ = some (.int .i64 t2) := HZ.out.2.1.cell 1
    have x2 : Z.cell? ⟨tb, 2, none⟩ = some (.int .i64 t3) := HZ.out.2.1.cell 2
    have x3 : Z.cell? ⟨tb, 3, none⟩ = some (.int .i64 t4) := HZ.out.2.1.cell 3
    have x4 : Z.cell? ⟨tb, 4, none⟩ = some (.int .i64 t5) := HZ.out.2.1.cell 4
    have x5 : Z.cell? ⟨tb, 5, none⟩ = some (.int .i64 t6) := HZ.out.2.1.cell 5
    have x6 : Z.cell? ⟨tb, 6, none⟩ = some (.int .i64 t7) := HZ.out.2.1.cell 6
    have x7 : Z.cell? ⟨tb, 7, none⟩ = some (.int .i64 t8) := HZ.out.2.1.cell 7
    have x8 : Z.cell? ⟨tb, 8, none⟩ = some (.int .i64 t9) := HZ.out.2.1.cell 8
    go_wp2_with (at_builtin; refine wpList_append1 rfl _ _ _ rfl Tryz.underlying28 infoT rfl (by omega) encT_len encT_one rfl (HZ.out.1.alloc _) Z.heap.size 1 ((t1, t2, t3), (t7, t8, t9), t4, t5, t6) rfl (Blk.new _ _ _) (by unfold maxLen; omega) (by omega) (by simp; omega) ?_; intro g5 cap5 w5 hown5 hg5 hB5 hat5 hgb5 hlt5; have h8 := HFn.out w5 _ (L ++ [((t1, t2, t3), (t7, t8, t9), t4, t5, t6)]) (N + 1) hown5 (by rw [List.length_append]; have := HS.out.2.2; simp; omega) (HS.out.2.1.app (fun t ht => by rw [List.mem_singleton] at ht; subst ht; exact ⟨HT.out.2.2.1.1, HT.out.2.2.1.2.2, HT.out.2.2.1.2.1⟩)) ((HZ.out.2.2.1.alloc hzZ _).trans hB5); have H8 := hide h8; clear h8 hown5 hg5 hB5 hat5 hgb5 hlt5)
    go_ret
    exact ⟨_, rfl, H8.out⟩
  · obtain ⟨b0, o0, hA, hbb, g0, g1, g2, g3, g4, g5, g6, g7, g8⟩ := (HZ.out.1.sl encT_len (Nat.le_refl _)).tri HT.out.2.1
    cases hA
    simp only [Nat.zero_add] at g0 g1 g2 g3 g4 g5 g6 g7 g8
    go_upto_region 24 with fail
    clear g0 g1 g2 g3 g4 g5 g6 g7 g8 hbb
    obtain ⟨pb, hpb⟩ : ∃ g, g = Z.heap.size := ⟨_, rfl⟩
    obtain ⟨Y, hY⟩ : ∃ W, W = Z.alloc (.cells #[.int .i64 u7, .int .i64 u8, .int .i64 u9] 41) := ⟨_, rfl⟩
    rw [← hY, ← hpb]
    have hbp : Blk Y pb 41 #[.int .i64 u7, .int .i64 u8, .int .i64 u9] := by rw [hY, hpb]; exact Blk.new _ _ _
    have hbt : Blk Y tb 58 #[.int .i64 t1, .int .i64 t2, .int .i64 t3, .int .i64 t4, .int .i64 t5, .int .i64 t6, .int .i64 t7, .int .i64 t8, .int .i64 t9] := by rw [hY]; exact HZ.out.2.1.alloc _
    have hOY : Own encT 9 58 Y W0.heap.size (.slice (some ⟨g, 0, none⟩) N c1) N L := by rw [hY]; exact HZ.out.1.alloc _
    have hBY : Below W0.heap.size W0 Y := by rw [hY]; exact HZ.out.2.2.1.alloc HZ.out.2.2.1.size _
    have hgp : g ≠ pb := by have := (HZ.out.1.blk g rfl).2; omega
    have hgW : W0.heap.size ≤ g := (HZ.out.1.blk g rfl).1
    have HY := hide (And.intro hbp (And.intro hbt (And.intro hOY (And.intro hBY (And.intro hgp (And.intro HZ.out.2.2.2.1 hgW))))))
    clear hbp hbt hOY hBY hgp hgW hY hpb
    go_wp2_with fail
    go_loopw [11] (fun iv wr => ∃ (i : Nat) (M : List Tri), i ≤ N ∧ iv = .int .i64 i ∧ Own encT 9 58 wr W0.heap.size (.slice (some ⟨g, 0, none⟩) N c1) N M ∧ Blk wr pb 41 #[.int .i64 u7, .int .i64 u8, .int .i64 u9] ∧ Blk wr tb 58 #[.int .i64 t1, .int .i64 t2, .int .i64 t3, .int .i64 t4, .int .i64 t5, .int .i64 t6, .int .i64 t7, .int .i64 t8, .int .i64 t9] ∧ FitL M ∧ Below W0.heap.size W0 wr) (fun iv _ => N - (intOf iv).toNat)
    case atStart => exact ⟨0, L, by omega, rfl, HY.out.2.2.1, HY.out.1, HY.out.2.1, HS.out.2.1, HY.out.2.2.2.1⟩
    case round =>
      obtain ⟨i, M, hi, rfl, hO, hbp, hbt, hfM, hB⟩ := hrel
      obtain ⟨V, rfl⟩ : ∃ x, x = wr := ⟨_, rfl⟩
      by_cases hlt : i < N
      · have i2 : (i : Int) < (N : Int) := by omega
        have HV := hide (And.intro hO (And.intro hbp (And.intro hbt (And.intro hfM hB))))
        clear hO hbp hbt hfM hB
        go_wp2_with fail
        go_loopw [12] (fun cv wr => ∃ (q : Nat) (M : List Tri), q ≤ 3 ∧ cv = .int .i64 q ∧ Own encT 9 58 wr W0.heap.size (.slice (some ⟨g, 0, none⟩) N c1) N M ∧ Blk wr pb 41 #[.int .i64 u7, .int .i64 u8, .int .i64 u9] ∧ Blk wr tb 58 #[.int .i64 t1, .int .i64 t2, .int .i64 t3, .int .i64 t4, .int .i64 t5, .int .i64 t6, .int .i64 t7, .int .i64 t8, .int .i64 t9] ∧ FitL M ∧ Below W0.heap.size W0 wr) (fun cv _ => 3 - (intOf cv).toNat)
        case atStart => exact ⟨0, M, by omega, rfl, HV.out.1, HV.out.2.1, HV.out.2.2.1, HV.out.2.2.2.1, HV.out.2.2.2.2⟩
        case round =>
          clear HV
          obtain ⟨q, M2, hq, rfl, hO, hbp, hbt, hfM, hB⟩ := hrel
          obtain ⟨R, rfl⟩ : ∃ x, x = wr := ⟨_, rfl⟩
          obtain ⟨y, hy⟩ : ∃ y, M2[i]? = some y := ⟨_, List.getElem?_eq_getElem (by rw [← hO.1]; exact hlt)⟩
          have hfy := hfM y (List.mem_of_getElem? hy)
          have r0 : R.cell? ⟨pb, 0, none⟩ = some (.int .i64 u7) := hbp.cell 0
          have r1 : R.cell? ⟨pb, 1, none⟩ = some (.int .i64 u8) := hbp.cell 1
          have r2 : R.cell? ⟨pb, 2, none⟩ = some (.int .i64 u9) := hbp.cell 2
          have x0 : R.cell? ⟨tb, 0, none⟩ = some (.int .i64 t1) := hbt.cell 0
          have x1 : R.cell? ⟨tb, 1, none⟩ = some (.int .i64 t2) := hbt.cell 1
          have x2 : R.cell? ⟨tb, 2, none⟩ = some (.int .i64 t3) := hbt.cell 2
          have hpl := hbp.lt
          have htl := hbt.lt
          obtain ⟨b0, o0, hA, hbb, g0, g1, g2, g3, g4, g5, g6, g7, g8⟩ := (hO.sl encT_len (Nat.le_refl _)).tri hy
          cases hA
          simp only [Nat.zero_add] at g0 g1 g2 g3 g4 g5 g6 g7 g8
          obtain ⟨cs, hcs⟩ := hO.cells g rfl
          have hbg : Blk R g 58 cs := hcs
          have hgl := hbg.lt
          have hfr : ∀ o, R.frozen? ⟨g, o, none⟩ = false := fun o => hbg.frozen o
          have HR := hide (And.intro hO (And.intro hbp (And.intro hbt (And.intro hfM (And.intro hB (And.intro hy hfy))))))
          have HFr := hide hfr
          clear hO hbp hbt hfM hB hy hcs hbg hfr
          have hc : q = 0 ∨ q = 1 ∨ q = 2 ∨ q = 3 := by omega
          rcases hc with rfl | rfl | rfl | rfl
          · have e1 := eqP y.1 (u7, u8, u9) hfy.1 HT.out.2.2.2.2.2
            by_cases h1 : y.1 = (u7, u8, u9)
            · rw [decide_eq_true h1] at e1
              clear h1 hfy
              have f0 : R.frozen? ⟨g, i * 9, none⟩ = false := HFr.out _
              have f1 : R.frozen? ⟨g, i * 9 + 1, none⟩ = false := HFr.out _
              have f2 : R.frozen? ⟨g, i * 9 + 2, none⟩ = false := HFr.out _
              go_upto_region 30 with fail
              go_quiet (fail)
              go_upto_region 31 with fail
              obtain ⟨R2, hR2⟩ : ∃ W, W = R.drewN nq := ⟨_, rfl⟩
              rw [← hR2]
              have HS2 := hide (show Own encT 9 58 R2 W0.heap.size (.slice (some ⟨g, 0, none⟩) N c1) N M2 ∧ Blk R2 pb 41 #[.int .i64 u7, .int .i64 u8, .int .i64 u9] ∧ Blk R2 tb 58 #[.int .i64 t1, .int .i64 t2, .int .i64 t3, .int .i64 t4, .int .i64 t5, .int .i64 t6, .int .i64 t7, .int .i64 t8, .int .i64 t9] ∧ FitL M2 ∧ Below W0.heap.size W0 R2 by rw [hR2]; exact ⟨HR.out.1, HR.out.2.1, HR.out.2.2.1, HR.out.2.2.2.1, below_drewN HR.out.2.2.2.2.1 _⟩)
              clear x0 x1 x2 g0 g1 g2 g3 g4 g5 g6 g7 g8 r0 r1 r2 f0 f1 f2 hpl htl hgl e1 hR2
              have x0 : R2.cell? ⟨tb, 0, none⟩ = some (.int .i64 t1) := HS2.out.2.2.1.cell 0
              have x1 : R2.cell? ⟨tb, 1, none⟩ = some (.int .i64 t2) := HS2.out.2.2.1.cell 1
              have x2 : R2.cell? ⟨tb, 2, none⟩ = some (.int .i64 t3) := HS2.out.2.2.1.cell 2
              obtain ⟨b0, o0, hA, hbb, g0, g1, g2, g3, g4, g5, g6, g7, g8⟩ := (HS2.out.1.sl encT_len (Nat.le_refl _)).tri HR.out.2.2.2.2.2.1
              cases hA
              simp only [Nat.zero_add] at g0 g1 g2 g3 g4 g5 g6 g7 g8
              obtain ⟨cs, hcs⟩ := HS2.out.1.cells g rfl
              have hbg : Blk R2 g 58 cs := hcs
              have f0 : R2.frozen? ⟨g, i * 9, none⟩ = false := hbg.frozen _
              have f1 : R2.frozen? ⟨g, i * 9 + 1, none⟩ = false := hbg.frozen _
              have f2 : R2.frozen? ⟨g, i * 9 + 2, none⟩ = false := hbg.frozen _
              have hgl := hbg.lt
              have htl := HS2.out.2.2.1.lt
              clear hcs hbg
              have h8 := fun W (h : W = ((R2.drew.setCell ⟨g, i * 9 + 0 * 3, none⟩ (.int .i64 t1)).setCell ⟨g, i * 9 + 0 * 3 + 1, none⟩ (.int .i64 t2)).setCell ⟨g, i * 9 + 0 * 3 + 2, none⟩ (.int .i64 t3)) => (show Own encT 9 58 W W0.heap.size (.slice (some ⟨g, 0, none⟩) N c1) N (M2.set i (putC y 0 (t1, t2, t3))) ∧ Blk W pb 41 #[.int .i64 u7, .int .i64 u8, .int .i64 u9] ∧ Blk W tb 58 #[.int .i64 t1, .int .i64 t2, .int .i64 t3, .int .i64 t4, .int .i64 t5, .int .i64 t6, .int .i64 t7, .int .i64 t8, .int .i64 t9] ∧ FitL (M2.set i (putC y 0 (t1, t2, t3))) ∧ Below W0.heap.size W0 W by rw [h]; exact ⟨HS2.out.1.drew.putP HR.out.2.2.2.2.2.1 (by omega) (t1, t2, t3), ((HS2.out.2.1.drew.far (p := ⟨g, _, none⟩) HY.out.2.2.2.2.1.symm _).far (p := ⟨g, _, none⟩) HY.out.2.2.2.2.1.symm _).far (p := ⟨g, _, none⟩) HY.out.2.2.2.2.1.symm _, ((HS2.out.2.2.1.drew.far (p := ⟨g, _, none⟩) HY.out.2.2.2.2.2.1.symm _).far (p := ⟨g, _, none⟩) HY.out.2.2.2.2.2.1.symm _).far (p := ⟨g, _, none⟩) HY.out.2.2.2.2.2.1.symm _, HS2.out.2.2.2.1.set i (putC_fits HR.out.2.2.2.2.2.2 HT.out.2.2.1.1 _), ((HS2.out.2.2.2.2.drew.setCell (p := ⟨g, _, none⟩) HY.out.2.2.2.2.2.2 _).setCell (p := ⟨g, _, none⟩) HY.out.2.2.2.2.2.2 _).setCell (p := ⟨g, _, none⟩) HY.out.2.2.2.2.2.2 _⟩)
              have H8 := hide h8
              clear h8
              go_still_tail 7, (by kernel_rfl)
              repeat still_step
              change wpList _ _ _ _ _ R2.drew
              go_wp2
              go_roundw
              case rel => exact ⟨_, _, _, _, _, _, _, _, _, _, _, _, _, _, _, _, _, _, _, _, ⟨1, _, by omega, by go_num, (H8.out _ rfl).1, (H8.out _ rfl).2.1, (H8.out _ rfl).2.2.1, (H8.out _ rfl).2.2.2.1, (H8.out _ rfl).2.2.2.2⟩, rfl⟩
              case measure => (simp [intOf]; try omega)
            · rw [decide_eq_false h1] at e1
              clear h1 hfy
              go_upto_region 30 with fail
              go_quiet (fail)
              go_wp2
              go_roundw
              case rel => exact ⟨1, M2, by omega, by go_num, HR.out.1, HR.out.2.1, HR.out.2.2.1, HR.out.2.2.2.1, below_drewN HR.out.2.2.2.2.1 _⟩
              case measure => (simp [intOf]; try omega)
          · have e1 := eqP y.2.1 (u7, u8, u9) hfy.2.1 HT.out.2.2.2.2.2
            by_cases h1 : y.2.1 = (u7, u8, u9)
            · rw [decide_eq_true h1] at e1
              clear h1 hfy
              have f0 : R.frozen? ⟨g, i * 9 + 3, none⟩ = false := HFr.out _
              have f1 : R.frozen? ⟨g, i * 9 + 4, none⟩ = false := HFr.out _
              have f2 : R.frozen? ⟨g, i * 9 + 5, none⟩ = false := HFr.out _
              go_upto_region 30 with fail
              go_quiet (fail)
              go_upto_region 31 with fail
              obtain ⟨R2, hR2⟩ : ∃ W, W = R.drewN nq := ⟨_, rfl⟩
              rw [← hR2]
              have HS2 := hide (show Own encT 9 58 R2 W0.heap.size (.slice (some ⟨g, 0, none⟩) N c1) N M2 ∧ Blk R2 pb 41 #[.int .i64 u7, .int .i64 u8, .int .i64 u9] ∧ Blk R2 tb 58 #[.int .i64 t1, .int .i64 t2, .int .i64 t3, .int .i64 t4, .int .i64 t5, .int .i64 t6, .int .i64 t7, .int .i64 t8, .int .i64 t9] ∧ FitL M2 ∧ Below W0.heap.size W0 R2 by rw [hR2]; exact ⟨HR.out.1, HR.out.2.1, HR.out.2.2.1, HR.out.2.2.2.1, below_drewN HR.out.2.2.2.2.1 _⟩)
              clear x0 x1 x2 g0 g1 g2 g3 g4 g5 g6 g7 g8 r0 r1 r2 f0 f1 f2 hpl htl hgl e1 hR2
              have x0 : R2.cell? ⟨tb, 0, none⟩ = some (.int .i64 t1) := HS2.out.2.2.1.cell 0
              have x1 : R2.cell? ⟨tb, 1, none⟩ = some (.int .i64 t2) := HS2.out.2.2.1.cell 1
              have x2 : R2.cell? ⟨tb, 2, none⟩ = some (.int .i64 t3) := HS2.out.2.2.1.cell 2
              obtain ⟨b0, o0, hA, hbb, g0, g1, g2, g3, g4, g5, g6, g7, g8⟩ := (HS2.out.1.sl encT_len (Nat.le_refl _)).tri HR.out.2.2.2.2.2.1
              cases hA
              simp only [Nat.zero_add] at g0 g1 g2 g3 g4 g5 g6 g7 g8
              obtain ⟨cs, hcs⟩ := HS2.out.1.cells g rfl
              have hbg : Blk R2 g 58 cs := hcs
              have f0 : R2.frozen? ⟨g, i * 9 + 3, none⟩ = false := hbg.frozen _
              have f1 : R2.frozen? ⟨g, i * 9 + 4, none⟩ = false := hbg.frozen _
              have f2 : R2.frozen? ⟨g, i * 9 + 5, none⟩ = false := hbg.frozen _
              have hgl := hbg.lt
              have htl := HS2.out.2.2.1.lt
              clear hcs hbg
              have h8 := fun W (h : W = ((R2.drew.setCell ⟨g, i * 9 + 1 * 3, none⟩ (.int .i64 t1)).setCell ⟨g, i * 9 + 1 * 3 + 1, none⟩ (.int .i64 t2)).setCell ⟨g, i * 9 + 1 * 3 + 2, none⟩ (.int .i64 t3)) => (show Own encT 9 58 W W0.heap.size (.slice (some ⟨g, 0, none⟩) N c1) N (M2.set i (putC y 1 (t1, t2, t3))) ∧ Blk W pb 41 #[.int .i64 u7, .int .i64 u8, .int .i64 u9] ∧ Blk W tb 58 #[.int .i64 t1, .int .i64 t2, .int .i64 t3, .int .i64 t4, .int .i64 t5, .int .i64 t6, .int .i64 t7, .int .i64 t8, .int .i64 t9] ∧ FitL (M2.set i (putC y 1 (t1, t2, t3))) ∧ Below W0.heap.size W0 W by rw [h]; exact ⟨HS2.out.1.drew.putP HR.out.2.2.2.2.2.1 (by omega) (t1, t2, t3), ((HS2.out.2.1.drew.far (p := ⟨g, _, none⟩) HY.out.2.2.2.2.1.symm _).far (p := ⟨g, _, none⟩) HY.out.2.2.2.2.1.symm _).far (p := ⟨g, _, none⟩) HY.out.2.2.2.2.1.symm _, ((HS2.out.2.2.1.drew.far (p := ⟨g, _, none⟩) HY.out.2.2.2.2.2.1.symm _).far (p := ⟨g, _, none⟩) HY.out.2.2.2.2.2.1.symm _).far (p := ⟨g, _, none⟩) HY.out.2.2.2.2.2.1.symm _, HS2.out.2.2.2.1.set i (putC_fits HR.out.2.2.2.2.2.2 HT.out.2.2.1.1 _), ((HS2.out.2.2.2.2.drew.setCell (p := ⟨g, _, none⟩) HY.out.2.2.2.2.2.2 _).setCell (p := ⟨g, _, none⟩) HY.out.2.2.2.2.2.2 _).setCell (p := ⟨g, _, none⟩) HY.out.2.2.2.2.2.2 _⟩)
              have H8 := hide h8
              clear h8
              go_still_tail 7, (by kernel_rfl)
              repeat still_step
              change wpList _ _ _ _ _ R2.drew
              go_wp2
              go_roundw
              case rel => exact ⟨_, _, _, _, _, _, _, _, _, _, _, _, _, _, _, _, _, _, _, _, ⟨2, _, by omega, by go_num, (H8.out _ rfl).1, (H8.out _ rfl).2.1, (H8.out _ rfl).2.2.1, (H8.out _ rfl).2.2.2.1, (H8.out _ rfl).2.2.2.2⟩, rfl⟩
              case measure => (simp [intOf]; try omega)
            · rw [decide_eq_false h1] at e1
              clear h1 hfy
              go_upto_region 30 with fail
              go_quiet (fail)
              go_wp2
              go_roundw
              case rel => exact ⟨2, M2, by omega, by go_num, HR.out.1, HR.out.2.1, HR.out.2.2.1, HR.out.2.2.2.1, below_drewN HR.out.2.2.2.2.1 _⟩
              case measure => (simp [intOf]; try omega)
          · have e1 := eqP y.2.2 (u7, u8, u9) hfy.2.2 HT.out.2.2.2.2.2
            by_cases h1 : y.2.2 = (u7, u8, u9)
            · rw [decide_eq_true h1] at e1
              clear h1 hfy
              have f0 : R.frozen? ⟨g, i * 9 + 6, none⟩ = false := HFr.out _
              have f1 : R.frozen? ⟨g, i * 9 + 7, none⟩ = false := HFr.out _
              have f2 : R.frozen? ⟨g, i * 9 + 8, none⟩ = false := HFr.out _
              go_upto_region 30 with fail
              go_quiet (fail)
              go_upto_region 31 with fail
              obtain ⟨R2, hR2⟩ : ∃ W, W = R.drewN nq := ⟨_, rfl⟩
              rw [← hR2]
              have HS2 := hide (show Own encT 9 58 R2 W0.heap.size (.slice (some ⟨g, 0, none⟩) N c1) N M2 ∧ Blk R2 pb 41 #[.int .i64 u7, .int .i64 u8, .int .i64 u9] ∧ Blk R2 tb 58 #[.int .i64 t1, .int .i64 t2, .int .i64 t3, .int .i64 t4, .int .i64 t5, .int .i64 t6, .int .i64 t7, .int .i64 t8, .int .i64 t9] ∧ FitL M2 ∧ Below W0.heap.size W0 R2 by rw [hR2]; exact ⟨HR.out.1, HR.out.2.1, HR.out.2.2.1, HR.out.2.2.2.1, below_drewN HR.out.2.2.2.2.1 _⟩)
              clear x0 x1 x2 g0 g1 g2 g3 g4 g5 g6 g7 g8 r0 r1 r2 f0 f1 f2 hpl htl hgl e1 hR2
              have x0 : R2.cell? ⟨tb, 0, none⟩ = some (.int .i64 t1) := HS2.out.2.2.1.cell 0
              have x1 : R2.cell? ⟨tb, 1, none⟩ = some (.int .i64 t2) := HS2.out.2.2.1.cell 1
              have x2 : R2.cell? ⟨tb, 2, none⟩ = some (.int .i64 t3) := HS2.out.2.2.1.cell 2
              obtain ⟨b0, o0, hA, hbb, g0, g1, g2, g3, g4, g5, g6, g7, g8⟩ := (HS2.out.1.sl encT_len (Nat.le_refl _)).tri HR.out.2.2.2.2.2.1
              cases hA
              simp only [Nat.zero_add] at g0 g1 g2 g3 g4 g5 g6 g7 g8
              obtain ⟨cs, hcs⟩ := HS2.out.1.cells g rfl
              have hbg : Blk R2 g 58 cs := hcs
              have f0 : R2.frozen? ⟨g, i * 9 + 6, none⟩ = false := hbg.frozen _
              have f1 : R2.frozen? ⟨g, i * 9 + 7, none⟩ = false := hbg.frozen _
              have f2 : R2.frozen? ⟨g, i * 9 + 8, none⟩ = false := hbg.frozen _
              have hgl := hbg.lt
              have htl := HS2.out.2.2.1.lt
              clear hcs hbg
              have h8 := fun W (h : W = ((R2.drew.setCell ⟨g, i * 9 + 2 * 3, none⟩ (.int .i64 t1)).setCell ⟨g, i * 9 + 2 * 3 + 1, none⟩ (.int .i64 t2)).setCell ⟨g, i * 9 + 2 * 3 + 2, none⟩ (.int .i64 t3)) => (show Own encT 9 58 W W0.heap.size (.slice (some ⟨g, 0, none⟩) N c1) N (M2.set i (putC y 2 (t1, t2, t3))) ∧ Blk W pb 41 #[.int .i64 u7, .int .i64 u8, .int .i64 u9] ∧ Blk W tb 58 #[.int .i64 t1, .int .i64 t2, .int .i64 t3, .int .i64 t4, .int .i64 t5, .int .i64 t6, .int .i64 t7, .int .i64 t8, .int .i64 t9] ∧ FitL (M2.set i (putC y 2 (t1, t2, t3))) ∧ Below W0.heap.size W0 W by rw [h]; exact ⟨HS2.out.1.drew.putP HR.out.2.2.2.2.2.1 (by omega) (t1, t2, t3), ((HS2.out.2.1.drew.far (p := ⟨g, _, none⟩) HY.out.2.2.2.2.1.symm _).far (p := ⟨g, _, none⟩) HY.out.2.2.2.2.1.symm _).far (p := ⟨g, _, none⟩) HY.out.2.2.2.2.1.symm _, ((HS2.out.2.2.1.drew.far (p := ⟨g, _, none⟩) HY.out.2.2.2.2.2.1.symm _).far (p := ⟨g, _, none⟩) HY.out.2.2.2.2.2.1.symm _).far (p := ⟨g, _, none⟩) HY.out.2.2.2.2.2.1.symm _, HS2.out.2.2.2.1.set i (putC_fits HR.out.2.2.2.2.2.2 HT.out.2.2.1.1 _), ((HS2.out.2.2.2.2.drew.setCell (p := ⟨g, _, none⟩) HY.out.2.2.2.2.2.2 _).setCell (p := ⟨g, _, none⟩) HY.out.2.2.2.2.2.2 _).setCell (p := ⟨g, _, none⟩) HY.out.2.2.2.2.2.2 _⟩)
              have H8 := hide h8
              clear h8
              go_still_tail 7, (by kernel_rfl)
              repeat still_step
              change wpList _ _ _ _ _ R2.drew
              go_wp2
              go_roundw
              case rel => exact ⟨_, _, _, _, _, _, _, _, _, _, _, _, _, _, _, _, _, _, _, _, ⟨3, _, by omega, by go_num, (H8.out _ rfl).1, (H8.out _ rfl).2.1, (H8.out _ rfl).2.2.1, (H8.out _ rfl).2.2.2.1, (H8.out _ rfl).2.2.2.2⟩, rfl⟩
              case measure => (simp [intOf]; try omega)
            · rw [decide_eq_false h1] at e1
              clear h1 hfy
              go_upto_region 30 with fail
              go_quiet (fail)
              go_wp2
              go_roundw
              case rel => exact ⟨3, M2, by omega, by go_num, HR.out.1, HR.out.2.1, HR.out.2.2.1, HR.out.2.2.2.1, below_drewN HR.out.2.2.2.2.1 _⟩
              case measure => (simp [intOf]; try omega)
          · have i3 : ¬ ((3 : Nat) : Int) < 3 := by omega
            go_wp2
            go_roundw
            case rel => exact ⟨i + 1, M2, by omega, by go_num, HR.out.1, HR.out.2.1, HR.out.2.2.1, HR.out.2.2.2.1, HR.out.2.2.2.2.1⟩
            case measure => (simp [intOf]; try omega)
      · obtain rfl : i = N := by omega
        have i2 : ¬ (i : Int) < (i : Int) := by omega
        have h8 := HFn.out V _ M i hO (by have := hO.1; omega) hfM hB
        have H8 := hide h8
        clear h8 hO hbp hbt hfM hB
        go_wp2
        go_ret
        exact ⟨_, rfl, H8.out⟩
  · obtain ⟨k1, hk1⟩ : ∃ m, m = k + 1 := ⟨_, rfl⟩
    have e1 : 1 + (k : Int) = (k1 : Int) := by omega
    have hk1N : k1 ≤ N := by omega
    have hcap := HZ.out.1.place.1
    have hrunH : ∀ V : World, (Instr.slice 28 (.slice (some ⟨g, 0, none⟩) N c1) none (some (.int .i64 k1)) none).run Tryz.prog V = .ok (.slice (some ⟨g, 0, none⟩) k1 c1) V := fun V => run_cutH Tryz.underlying28 Tryz.sizeOf58 hk1N hcap V
    have h8 := HFn.out Z _ (L.take k1) k1 (HZ.out.1.cutN encT_len hk1N) (by rw [List.length_take]; have := HS.out.2.2; omega) (fun t ht => HS.out.2.1 t (List.mem_of_mem_take ht)) HZ.out.2.2.1
    have H8 := hide h8
    clear hk1 h8 hcap
    go_wp2
    go_ret
    exact ⟨_, rfl, H8.out⟩
  · have x0 : Z.cell? ⟨tb, 0, none⟩ = some (.int .i64 t1) := HZ.out.2.1.cell 0
    have x1 : Z.cell? ⟨tb, 1, none⟩ = some (.int .i64 t2) := HZ.out.2.1.cell 1
    have x2 : Z.cell? ⟨tb, 2, none⟩ = some (.int .i64 t3) := HZ.out.2.1.cell 2
    have x3 : Z.cell? ⟨tb, 3, none⟩ = some (.int .i64 t4) := HZ.out.2.1.cell 3
    have x4 : Z.cell? ⟨tb, 4, none⟩ = some (.int .i64 t5) := HZ.out.2.1.cell 4
    have x5 : Z.cell? ⟨tb, 5, none⟩ = some (.int .i64 t6) := HZ.out.2.1.cell 5
    have x6 : Z.cell? ⟨tb, 6, none⟩ = some (.int .i64 t7) := HZ.out.2.1.cell 6
    have x7 : Z.cell? ⟨tb, 7, none⟩ = some (.int .i64 t8) := HZ.out.2.1.cell 7
    have x8 : Z.cell? ⟨tb, 8, none⟩ = some (.int .i64 t9) := HZ.out.2.1.cell 8
    obtain ⟨b0, o0, hA, hbb, g0, g1, g2, g3, g4, g5, g6, g7, g8⟩ := (HZ.out.1.sl encT_len (Nat.le_refl _)).tri HT.out.1
    cases hA
    simp only [Nat.zero_add] at g0 g1 g2 g3 g4 g5 g6 g7 g8
    obtain ⟨cs, hcs⟩ := HZ.out.1.cells g rfl
    have hbg : Blk Z g 58 cs := hcs
    have f0 : Z.frozen? ⟨g, k * 9, none⟩ = false := hbg.frozen _
    have f1 : Z.frozen? ⟨g, k * 9 + 1, none⟩ = false := hbg.frozen _
    have f2 : Z.frozen? ⟨g, k * 9 + 2, none⟩ = false := hbg.frozen _
    have f3 : Z.frozen? ⟨g, k * 9 + 3, none⟩ = false := hbg.frozen _
    have f4 : Z.frozen? ⟨g, k * 9 + 4, none⟩ = false := hbg.frozen _
    have f5 : Z.frozen? ⟨g, k * 9 + 5, none⟩ = false := hbg.frozen _
    have f6 : Z.frozen? ⟨g, k * 9 + 6, none⟩ = false := hbg.frozen _
    have f7 : Z.frozen? ⟨g, k * 9 + 7, none⟩ = false := hbg.frozen _
    have f8 : Z.frozen? ⟨g, k * 9 + 8, none⟩ = false := hbg.frozen _
    have hgl := hbg.lt
    have htl := HZ.out.2.1.lt
    clear hcs hbg
    have h8 := fun W (h : W = setW Z g (k * 9) (encT ((t7, t8, t9), (t1, t2, t3), t4, t5, t6))) => HFn.out W (.slice (some ⟨g, 0, none⟩) N c1) (L.set k ((t7, t8, t9), (t1, t2, t3), t4, t5, t6)) N (by rw [h]; exact HZ.out.1.setW encT_len (by rw [← HS.out.2.2]; exact hkN) ((t7, t8, t9), (t1, t2, t3), t4, t5, t6)) (by rw [List.length_set]; have := HS.out.2.2; omega) (HS.out.2.1.set k ⟨HT.out.2.2.1.2.2, HT.out.2.2.1.1, HT.out.2.2.1.2.1⟩) (by rw [h]; exact below_setW HZ.out.2.2.1 (by have := (HZ.out.1.blk g rfl).1; omega) _ _)
    have H8 := hide h8
    clear h8
    go_wp2
    go_ret
    exact ⟨_, rfl, H8.out _ rfl⟩
  · go_wp2
    go_ret
    exact ⟨_, rfl, HFn.out Z _ L N HZ.out.1 (by have := HS.out.2.2; omega) HS.out.2.1 HZ.out.2.2.1⟩
  · go_wp2
    go_ret
    exact ⟨_, rfl, HFn.out Z _ L N HZ.out.1 (by have := HS.out.2.2; omega) HS.out.2.1 HZ.out.2.2.1⟩
  · go_wp2
    go_ret
    exact ⟨_, rfl, HFn.out Z _ L N HZ.out.1 (by have := HS.out.2.2; omega) HS.out.2.1 HZ.out.2.2.1⟩
end Go.Proofs.YtelfnmohpjkilaaGreatDoor
