/- Msh7 Msh8 Msh9. -/
import Derived.WalkKit
import Derived.WalkSpells
import Derived.WalkLawsBesides
import Derived.Laws.OwnMore
import Derived.Deep.AppendLies
import Derived.Deep.Draws
import Derived.Maps.AppendAt
import Derived.OwnWalk
import Derived.Sort.Grow
import Derived.Shelf.GgSortFunc.RowK
import Derived.RangeFuncNested
import Derived.RangeFuncBox
import Derived.Test.YtelfnmohpjkilaaGreatDoorRows
import Derived.Handy
import Derived.Maps.Own
import Derived.Maps.Views
import Derived.DeepKeys4
import Derived.DeepKeys
import Derived.Laws.StructEq
import Derived.Deep.QuietTactic
import Derived.BigQuiet
import Derived.LoopN
import Derived.Laws.EntriesVeiled
import Derived.Shelf.SlSortCmp.QuietGrown
import Derived.Deep.RegionHeld3
import Derived.Deep.DrawnRows
import Derived.Sort.Statements
import Derived.Shelf.SlSortCmp.NoneTotal
import Derived.OrdersHeld
import Derived.OrdersIn
import Derived.RangeFuncCalls
import Derived.OwnWalkIn
import Derived.Deep.CutBlock
import Derived.Deep.DeepCutAuto
import Derived.Maps.OwnSet
import Derived.Maps.RangeWalk
import Derived.WideKeyEntry
import Derived.IntWalk
import Derived.Deep.MidRow
import Derived.StillTailTactics
import Derived.Shelf.RegionOpen
import Derived.Deep.WholeRow
import Derived.Test.YtelfnmohpjkilaaGreatDoorQ7
import Derived.Test.YtelfnmohpjkilaaGreatDoorQ24
namespace Go.Proofs.YtelfnmohpjkilaaGreatDoor
open Go.RowKit Go.Sort Go.WideMaps Go.Maps
set_option maxRecDepth 100000
/-- Block b is a map of at most n entries: nx. -/
def NxtM (w : World) (b n : Nat) (nx : Ed → Option Pt) : Prop := MapK Tryz.prog 81 vE fitsE w b n fun e => (nx e).map vP
def CntM (w : World) (b n : Nat) (ct : Pt → Nat) : Prop := ∃ m, MapK Tryz.prog 41 vP fitsP w b n m ∧ ∀ p, (m p).getD (.int .i64 0) = .int .i64 (ct p : Nat)
theorem NxtM.made (w : World) : NxtM (w.alloc (.map #[] 0)) w.heap.size 0 fun _ => none := MapK.made Tryz.prog 81 vE fitsE w
theorem CntM.made (w : World) : CntM (w.alloc (.map #[] 0)) w.heap.size 0 fun _ => 0 := ⟨_, MapK.made Tryz.prog 41 vP fitsP w, fun _ => rfl⟩
theorem CntM.lt {w : World} {b n : Nat} {ct : Pt → Nat} (h : CntM w b n ct) : b < w.heap.size := by
  obtain ⟨m, h1, _⟩ := h
  exact h1.lt
theorem CntM.below {w w' : World} {b n B : Nat} {ct : Pt → Nat} (h : CntM w b n ct) (hb : Below B w w') (hB : b < B) : CntM w' b n ct := by
  obtain ⟨m, h1, h2⟩ := h
  exact ⟨m, h1.below hb hB, h2⟩
theorem CntM.kept {w w' : World} {b n : Nat} {ct : Pt → Nat} {row : Option Nat} (h : CntM w b n ct) (hg : w.grownBy w' row) (hne : some b ≠ row) : CntM w' b n ct := by
  obtain ⟨m, h1, h2⟩ := h
  exact ⟨m, h1.kept hg hne, h2⟩
theorem CntM.same {w : World} {b n : Nat} {ct ct' : Pt → Nat} (h : CntM w b n ct) (he : ∀ p, ct p = ct' p) : CntM w b n ct' := by
  have : ct = ct' := funext he
  exact this ▸ h
theorem CntM.look {w : World} {b n : Nat} {ct : Pt → Nat} (h : CntM w b n ct) (p : Pt) (hp : fitsP p) : (Instr.lookup 136 (.map (some b)) (vP p) false).run Tryz.prog w = .ok (.int .i64 (ct p : Nat)) w := by
  obtain ⟨m, h1, h2⟩ := h
  have := h1.lookup kfP4 (t := 136) (e := 3) Tryz.underlying136 (z := .int .i64 0) rfl p hp
  rw [h2] at this
  exact this
theorem NxtM.look {w : World} {b n : Nat} {nx : Ed → Option Pt} (h : NxtM w b n nx) (e : Ed) (he : fitsE e) : (Instr.lookup 135 (.map (some b)) (vE e) false).run Tryz.prog w = .ok (vP ((nx e).getD (0, 0, 0))) w := by
  have := MapK.lookup kfE4 (t := 135) (e := 41) h Tryz.underlying135 (z := vP (0, 0, 0)) rfl e he
  rw [this]
  cases nx e <;> rfl
theorem NxtM.look_ok {w : World} {b n : Nat} {nx : Ed → Option Pt} (h : NxtM w b n nx) (e : Ed) (he : fitsE e) : (Instr.lookup 135 (.map (some b)) (vE e) true).run Tryz.prog w = .ok (.tuple #[vP ((nx e).getD (0, 0, 0)), .bool (nx e).isSome]) w := by
  have := MapK.lookup_ok kfE4 (t := 135) (e := 41) h Tryz.underlying135 (z := vP (0, 0, 0)) rfl e he
  rw [this]
  cases nx e <;> rfl
theorem NxtM.put {w : World} {b n : Nat} {nx : Ed → Option Pt} (h : NxtM w b n nx) (hn : n < maxLen) (e : Ed) (he : fitsE e) (x : Pt) :
    ∃ w', (Instr.mapUpdate 135 (.map (some b)) (vE e) (vP x)).run Tryz.prog w = .ok () w' ∧ NxtM w' b (n + 1) (updE nx e x) ∧ w.grownBy w' (some b) ∧ w'.heap.size = w.heap.size := by
  obtain ⟨w', h1, h2, h3, h4⟩ := MapK.update kfE4 (t := 135) (e := 41) h Tryz.underlying135 hn e he (vP x)
  refine ⟨w', h1, h2.same fun q => ?_, h3, h4⟩
  unfold updE
  by_cases hq : q = e
  · rw [if_pos hq, if_pos hq]; rfl
  · rw [if_neg hq, if_neg hq]
theorem CntM.inc {w : World} {b n : Nat} {ct : Pt → Nat} (h : CntM w b n ct) (hn : n < maxLen) (p : Pt) (hp : fitsP p) :
    ∃ (st : Nat) (w1 : World), (Instr.mapEntry 136 (.map (some b)) (vP p)).run Tryz.prog w = .ok (.tuple #[.int .i64 (ct p : Nat), goInt st]) w1 ∧ w.grownBy w1 (some b) ∧ w1.heap.size = w.heap.size ∧ CntM w1 b (n + 1) ct ∧
      ∀ w2 : World, w2.heap[b]? = w1.heap[b]? → ∃ w3, (Instr.entryStore 136 (.map (some b)) (goInt st) (.int .i64 ((ct p + 1 : Nat) : Int))).run Tryz.prog w2 = .ok () w3 ∧ CntM w3 b (n + 1) (fun q => if q = p then ct p + 1 else ct q) ∧ w2.grownBy w3 (some b) ∧ w3.heap.size = w2.heap.size := by
  obtain ⟨m, h1, h2⟩ := h
  obtain ⟨st, w1, hrun, hg1, hz1, hM1, _, hst⟩ := h1.entry4 kfP4 lawP4 (t := 136) (e := 3) Tryz.underlying136 (z := .int .i64 0) (fun _ => rfl) hn p hp
  rw [h2] at hrun hM1
  refine ⟨st, w1, hrun, hg1, hz1, ⟨_, hM1, fun q => ?_⟩, fun w2 hw2 => ?_⟩
  · by_cases hq : q = p
    · subst hq; rw [if_pos rfl]; rfl
    · rw [if_neg hq]; exact h2 q
  · obtain ⟨w3, a, b', c, d⟩ := hst w2 (.int .i64 ((ct p + 1 : Nat) : Int)) hw2
    refine ⟨w3, a, ⟨_, b', fun q => ?_⟩, c, d⟩
    show (if q = p then some (Value.int .i64 ((ct p + 1 : Nat) : Int)) else m q).getD _ = .int .i64 ((if q = p then ct p + 1 else ct q : Nat) : Int)
    by_cases hq : q = p
    · rw [if_pos hq, if_pos hq]; rfl
    · rw [if_neg hq, if_neg hq]; exact h2 q
theorem cntJ_le (t : Tri) (p : Pt) (j : Nat) : cntJ t p j ≤ j := by
  induction j with
  | zero => exact Nat.le_refl _
  | succ j ih => rw [cntJ_succ]; split <;> omega
theorem cntC_le (l : List Tri) (p : Pt) : cntC l p ≤ 3 * l.length := by
  unfold cntC pinL
  induction l with
  | nil => exact Nat.le_refl _
  | cons t l ih =>
    rw [List.flatMap_cons, List.length_append, List.length_cons]
    have : (pinN t p 3).length ≤ 3 := cntJ_le t p 3
    omega
theorem edJ_fits {t : Tri} (h : fitsT t) (j : Nat) : fitsE (edJ t j) := ⟨corner_fits h _, corner_fits h _⟩
theorem prgO_stop (b : Pt → Option Pt) (s : Pt) (m f size : Nat) (a : Pt) (h : a = s ∨ m < size) : prgO b s m f size a = (decide (a = s) && decide (size < m)) := by
  cases f with
  | zero => rfl
  | succ f => unfold prgO; rw [if_pos h]
theorem prgO_none (b : Pt → Option Pt) (s : Pt) (m f size : Nat) (a : Pt) (h : a ≠ s) (hb : b a = none) : prgO b s m f size a = (decide (a = s) && decide (size < m)) := by
  cases f with
  | zero => rfl
  | succ f =>
    rw [decide_eq_false h, Bool.false_and]
    unfold prgO
    rw [hb]
    split
    · rw [decide_eq_false h, Bool.false_and]
    · rfl
theorem prgO_some (b : Pt → Option Pt) (s : Pt) (m f size : Nat) (a x : Pt) (h : a ≠ s) (hm : size ≤ m) (hb : b a = some x) : prgO b s m (f + 1) size a = prgO b s m f (size + 1) x := by
  conv => lhs; unfold prgO
  rw [hb, if_neg (by rintro (h1 | h1); exact h h1; omega)]
/-- What the two maps are laid up to. -/
structure PinS (w0 w : World) (nb cb n1 n2 : Nat) (nx : Ed → Option Pt) (ct : Pt → Nat) : Prop where
  nxt : NxtM w nb n1 nx
  cnt : CntM w cb n2 ct
  bel : Below w0.heap.size w0 w
theorem PinS.step {w0 w w' : World} {nb cb n1 n2 : Nat} {nx : Ed → Option Pt} {ct : Pt → Nat} (h : PinS w0 w nb cb n1 n2 nx ct) (hb : Below w.heap.size w w') : PinS w0 w' nb cb n1 n2 nx ct :=
  ⟨h.nxt.below hb h.nxt.lt, h.cnt.below hb h.cnt.lt, h.bel.trans (hb.mono h.bel.size)⟩
end Go.Proofs.YtelfnmohpjkilaaGreatDoor
namespace Go.Proofs.YtelfnmohpjkilaaGreatDoor
open Go.RowKit Go.Sort Go.WideMaps Go.Maps
set_option maxRecDepth 100000
set_option maxHeartbeats 32000000 in
theorem pinched4_any (A : Option Addr) (c : Nat) (ts : List Tri) (w : World) (hs : Sl encT 9 w w.heap.size A ts) (hl : ts.length ≤ 100000000) (hf : ∀ t ∈ ts, fitsT t) (hnd : (edgesP ts).Nodup) :
    Calls Tryz.prog 80 #[.slice A ts.length c] w fun e w' => e = .returned (.bool ((edgesP ts).any (ringM ts))) ∧ Below w.heap.size w w' := by
  have hmm := @run_makeMap Tryz.prog
  obtain ⟨M, hM⟩ : ∃ n, n = ts.length := ⟨_, rfl⟩
  rw [← hM] at hl ⊢
  obtain ⟨E, hE⟩ : ∃ E, E = edgesP ts := ⟨_, rfl⟩
  obtain ⟨Rg, hRg⟩ : ∃ R, R = ringM ts := ⟨_, rfl⟩
  have HER := hide (And.intro hE hRg)
  rw [← hE, ← hRg]
  have HS := hide (And.intro hs (And.intro hf (And.intro hM hnd)))
  clear hs hf hM hnd hE hRg
  go_enter Tryz.func80, Tryz.ntmps80
  go_upto_region 3 with fail
  obtain ⟨X, hX⟩ : ∃ X, X = (w.alloc (.map #[] 0)).alloc (.map #[] 0) := ⟨_, rfl⟩
  rw [← hX]
  have hPX : PinS w X w.heap.size (w.heap.size + 1) 0 0 (fun _ => none) (fun _ => 0) := by
    rw [hX]
    refine ⟨(NxtM.made w).below (Below.refl (w.heap.size + 1) _ |>.alloc (by simp) _) (by omega), ?_, ((Below.refl _ w).alloc (Nat.le_refl _) _).alloc (by simp) _⟩
    have := CntM.made (w.alloc (.map #[] 0))
    simpa using this
  obtain ⟨nb, hnb⟩ : ∃ b, b = w.heap.size := ⟨_, rfl⟩
  obtain ⟨cb, hcb⟩ : ∃ b, b = w.heap.size + 1 := ⟨_, rfl⟩
  rw [← hcb, ← hnb] at hPX ⊢
  have HX := hide (And.intro hPX (And.intro hnb hcb))
  clear hX hPX hmm hnb hcb
  go_wp2_with fail
  go_loopw [18] (fun iv wr => ∃ (k n1 n2 : Nat), k ≤ M ∧ iv = .int .i64 k ∧ PinS w wr nb cb n1 n2 (nxtN (ts.take k)) (cntC (ts.take k)) ∧ n1 ≤ 3 * k ∧ n2 ≤ 6 * k) (fun iv _ => M - (intOf iv).toNat)
  case atStart => exact ⟨0, 0, 0, by omega, rfl, HX.out.1, by omega, by omega⟩
  case round =>
    obtain ⟨k, n1, n2, hk, rfl, hP, hn1, hn2⟩ := hrel
    obtain ⟨V, rfl⟩ : ∃ V, V = wr := ⟨_, rfl⟩
    by_cases hlt : k < M
    · obtain ⟨t, ht⟩ : ∃ t, ts[k]? = some t := ⟨_, List.getElem?_eq_getElem (by rw [← HS.out.2.2.1]; exact hlt)⟩
      have i1 : (k : Int) < (M : Int) := by omega
      obtain ⟨b, o, hA, hbb, g0, g1, g2, g3, g4, g5, g6, g7, g8⟩ := (HS.out.1.below hP.bel).tri ht
      subst hA
      have hft := HS.out.2.1 t (List.mem_of_getElem? ht)
      have hsn := nxtN_snoc ts k t ht
      have hsc := fun p => cntC_snoc ts p k t ht
      have hcl := fun p => cntC_le (ts.take k) p
      have hcl' : ∀ p, cntC (ts.take k) p ≤ 3 * k := fun p => by have := hcl p; rw [List.length_take] at this; omega
      obtain ⟨N0, hN0⟩ : ∃ N, N = nxtN (ts.take k) := ⟨_, rfl⟩
      obtain ⟨C0, hC0⟩ : ∃ N, N = cntC (ts.take k) := ⟨_, rfl⟩
      rw [← hN0] at hP hsn
      rw [← hC0] at hP hcl'
      simp only [← hC0] at hsc
      have HK := hide (And.intro hP (And.intro hft (And.intro hsn (And.intro hsc hcl'))))
      clear hP hft hsn hsc ht hN0 hC0 hcl hcl'
      go_upto_region 6 with fail
      obtain ⟨Y, hY⟩ : ∃ Y, Y = V.alloc (.cells #[.int .i64 t.1.1, .int .i64 t.1.2.1, .int .i64 t.1.2.2, .int .i64 t.2.1.1, .int .i64 t.2.1.2.1, .int .i64 t.2.1.2.2, .int .i64 t.2.2.1, .int .i64 t.2.2.2.1, .int .i64 t.2.2.2.2] 58) := ⟨_, rfl⟩
      rw [← hY]
      have hbY : Blk Y V.heap.size 58 (encT t).toArray := by rw [hY]; exact Blk.new _ _ _
      have hPY : PinS w Y nb cb n1 n2 (nxtJ N0 t 0) (fun p => C0 p + cntJ t p 0) := by
        rw [hY]
        exact HK.out.1.step ((Below.refl _ V).alloc (Nat.le_refl _) _)
      obtain ⟨tb, htb⟩ : ∃ b, b = V.heap.size := ⟨_, rfl⟩
      rw [← htb] at hbY ⊢
      obtain ⟨a0, a1, a2, a3, a4, a5, a6, a7, a8⟩ := cells9z (w := Y) (b := tb) (ty := 58) (t := t) hbY
      have HY := hide (And.intro hPY (And.intro hbY htb))
      clear hY hPY hbY g0 g1 g2 g3 g4 g5 g6 g7 g8 htb
      go_wp2_with fail
      clear a0 a1 a2 a3 a4 a5 a6 a7 a8
      go_loopw [23] (fun jv wr => ∃ (j m1 m2 : Nat), j ≤ 3 ∧ jv = .int .i64 j ∧ PinS w wr nb cb m1 m2 (nxtJ N0 t j) (fun p => C0 p + cntJ t p j) ∧ m1 ≤ n1 + j ∧ m2 ≤ n2 + 2 * j ∧ Blk wr tb 58 (encT t).toArray) (fun jv _ => 3 - (intOf jv).toNat)
      case atStart => exact ⟨0, n1, n2, by omega, rfl, HY.out.1, by omega, by omega, HY.out.2.1⟩
      case round =>
        obtain ⟨j, m1, m2, hj, rfl, hP, hm1, hm2, hbt⟩ := hrel
        obtain ⟨R, rfl⟩ : ∃ V, V = wr := ⟨_, rfl⟩
        by_cases hj3 : j < 3
        · have i2 : (j : Int) < 3 := by omega
          have hidx := fun W => idxT t j hj3 W
          have hfc := corner_fits HK.out.2.1 j
          have hfe := edJ_fits HK.out.2.1 j
          have hxj : nxtJ N0 t (j + 1) = updE (nxtJ N0 t j) (edJ t j) (corner t ((j + 2) % 3)) := rfl
          have hcj := fun p => cntJ_succ t p j
          have hed : edJ t j = (corner t j, corner t ((j + 1) % 3)) := rfl
          obtain ⟨j1, hj1⟩ : ∃ x, x = (j + 1) % 3 := ⟨_, rfl⟩
          obtain ⟨j2, hj2⟩ : ∃ x, x = (j + 2) % 3 := ⟨_, rfl⟩
          rw [← hj1] at hed
          rw [← hj2] at hxj
          have t1 : ((j : Int) + 1) % 3 = (j1 : Int) := by omega
          have t2 : ((j : Int) + 2) % 3 = (j2 : Int) := by omega
          have t1' : ((j : Int) + 1).tmod 3 = (j1 : Int) := by rw [Int.tmod_eq_emod_of_nonneg (by omega)]; exact t1
          have t2' : ((j : Int) + 2).tmod 3 = (j2 : Int) := by rw [Int.tmod_eq_emod_of_nonneg (by omega)]; exact t2
          have wr1 : IntKind.i64.wrap ((j : Int) + 1) = (j : Int) + 1 := IntWalk.i64_in _ (by omega)
          have wr2 : IntKind.i64.wrap ((j : Int) + 2) = (j : Int) + 2 := IntWalk.i64_in _ (by omega)
          have l1 : (j1 : Int) < 3 := by omega
          have l2 : (j2 : Int) < 3 := by omega
          have l1n : j1 < 3 := by omega
          have l2n : j2 < 3 := by omega
          clear hj1 hj2
          obtain ⟨p, hp⟩ : ∃ p, p = corner t j := ⟨_, rfl⟩
          obtain ⟨p1, hp1⟩ : ∃ p, p = corner t j1 := ⟨_, rfl⟩
          obtain ⟨p2, hp2⟩ : ∃ p, p = corner t j2 := ⟨_, rfl⟩
          rw [hed, ← hp, ← hp1] at hfe
          rw [hed, ← hp, ← hp1, ← hp2] at hxj
          rw [← hp] at hfc
          simp only [← hp] at hidx hcj
          have HJ := hide (And.intro hP (And.intro hm1 (And.intro hm2 (And.intro hbt (And.intro hxj (And.intro hcj (And.intro hfc hfe)))))))
          have HP := hide (And.intro hp1 hp2)
          have hzR := hP.bel.size
          have hltt := hbt.lt
          have hcle : C0 p + cntJ t p j ≤ 300000010 := by
            have := HK.out.2.2.2.2 p
            have := cntJ_le t p j
            omega
          obtain ⟨cp, hcp⟩ : ∃ x, x = C0 p + cntJ t p j := ⟨_, rfl⟩
          rw [← hcp] at hcle
          have HCP := hide hcp
          clear hP hm1 hm2 hbt hxj hcj hfc hfe hp hp1 hp2 hed hcp
          go_upto_region 9 with fail
          obtain ⟨Z, hZ⟩ : ∃ Z, Z = R.alloc (.cells #[.int .i64 p.1, .int .i64 p.2.1, .int .i64 p.2.2] 41) := ⟨_, rfl⟩
          rw [← hZ]
          have hPZ := HJ.out.1.step (show Below R.heap.size R Z by rw [hZ]; exact (Below.refl _ R).alloc (Nat.le_refl _) _)
          have hbp : Blk Z R.heap.size 41 #[.int .i64 p.1, .int .i64 p.2.1, .int .i64 p.2.2] := by rw [hZ]; exact Blk.new _ _ _
          have hbt : Blk Z tb 58 (encT t).toArray := by rw [hZ]; exact HJ.out.2.2.2.1.alloc _
          have hct := cells9 hbt
          obtain ⟨pb, hpb⟩ : ∃ b, b = R.heap.size := ⟨_, rfl⟩
          have HPB := hide hpb
          rw [← hpb] at hbp hltt ⊢
          obtain ⟨x0, x1, x2⟩ := hbp.three
          obtain ⟨y0, y1, y2⟩ := hct.corner8 l1n
          obtain ⟨z0, z1, z2⟩ := hct.corner8 l2n
          rw [← HP.out.1] at y0 y1 y2
          rw [← HP.out.2] at z0 z1 z2
          rw [Nat.zero_add] at y0 y1 y2 z0 z1 z2
          have hPZd : PinS w Z.drew nb cb m1 m2 _ _ := hPZ.step (Below.refl _ Z).drew
          obtain ⟨w5, hrun5, hN5, hg5, hz5⟩ := hPZd.nxt.put (by have := HJ.out.2.1; unfold maxLen; omega) (p, p1) HJ.out.2.2.2.2.2.2.2 p2
          have hzZ : Z.heap.size = pb + 1 := by rw [hZ, hpb]; simp
          have hnbz := HX.out.2.1
          have hcbz := HX.out.2.2
          have hc5 : CntM w5 cb m2 (fun p => C0 p + cntJ t p j) := hPZd.cnt.kept hg5 (fun e => by injection e with e; omega)
          have hB5 : Below w.heap.size w w5 := hPZd.bel.grown hg5 hPZd.bel.size (fun r hr => by injection hr with hr; omega)
          have hbp5 : Blk w5 pb 41 #[.int .i64 p.1, .int .i64 p.2.1, .int .i64 p.2.2] := hbp.drew.grown hg5 (fun e => by injection e with e; have := HJ.out.1.nxt.lt; omega)
          have hbt5 : Blk w5 tb 58 (encT t).toArray := hbt.drew.grown hg5 (fun e => by injection e with e; have := HX.out.1.nxt.lt; have := HY.out.2.2; have := HK.out.1.nxt.lt; omega)
          have H5 := hide (And.intro hN5 (And.intro hc5 (And.intro hB5 (And.intro hbp5 (And.intro hbt5 (show w5.heap.size = pb + 1 by rw [hz5]; exact hzZ))))))
          clear hPZ hPZd hbp hbt hct hN5 hg5 hz5 hc5 hB5 hbp5 hbt5 hZ hpb hzZ hnbz hcbz hidx
          go_still_tail 13, (by kernel_rfl)
          repeat still_step
          change wpList _ _ _ _ _ Z.drew
          go_upto_region 10 with fail
          clear x0 x1 x2 y0 y1 y2 z0 z1 z2 hrun5
          have hc5d : CntM w5.drew cb m2 (fun p => C0 p + cntJ t p j) := H5.out.2.1.below (Below.refl (w5.heap.size + cb + 1) w5).drew (by omega)
          have hlk0 := hc5d.look p HJ.out.2.2.2.2.2.2.1
          obtain ⟨st, w6, hrun6, hg6, hz6, hM6, hst6⟩ := hc5d.inc (by have := HJ.out.2.2.1; unfold maxLen; omega) p HJ.out.2.2.2.2.2.2.1
          have hlk1 := hM6.look p HJ.out.2.2.2.2.2.2.1
          obtain ⟨w7, hrun7, hM7, hg7, hz7⟩ := hst6 w6 rfl
          have hcpe : C0 p + cntJ t p j = cp := HCP.out.symm
          simp only [hcpe] at hlk0 hlk1 hrun6 hrun7 hM7
          simp only [goInt] at hrun6 hrun7
          rw [show ((cp + 1 : Nat) : Int) = (cp : Int) + 1 by omega] at hrun7
          have hcbn : cb ≠ nb := by have := HX.out.2.1; have := HX.out.2.2; omega
          have hcbw : w.heap.size ≤ cb := by have := HX.out.2.2; omega
          have hcbp : cb < pb := by have h1 := HX.out.1.cnt.lt; have h2 := HJ.out.1.cnt.lt; have h3 := HPB.out; omega
          have hcbt : cb ≠ tb := by have h1 := HK.out.1.cnt.lt; have h2 := HY.out.2.2; omega
          have hS0 : (Instr.lookup 136 (.map (some cb)) (vP p) false).run Tryz.prog w5.drew = .ok (.int .i64 (cp : Nat)) w5.drew ∧ (w5.drew.cell? ⟨pb, 0, none⟩ = some (.int .i64 p.1) ∧ w5.drew.cell? ⟨pb, 1, none⟩ = some (.int .i64 p.2.1) ∧ w5.drew.cell? ⟨pb, 2, none⟩ = some (.int .i64 p.2.2)) := ⟨hlk0, H5.out.2.2.2.1.drew.three⟩
          have hb6 : Blk w6 pb 41 #[.int .i64 p.1, .int .i64 p.2.1, .int .i64 p.2.2] := H5.out.2.2.2.1.drew.grown hg6 (fun e => by injection e with e; omega)
          have hS1 : (Instr.lookup 136 (.map (some cb)) (vP p) false).run Tryz.prog w6 = .ok (.int .i64 (cp : Nat)) w6 ∧ (w6.cell? ⟨pb, 0, none⟩ = some (.int .i64 p.1) ∧ w6.cell? ⟨pb, 1, none⟩ = some (.int .i64 p.2.1) ∧ w6.cell? ⟨pb, 2, none⟩ = some (.int .i64 p.2.2)) := ⟨hlk1, hb6.three⟩
          have hN7 : NxtM w7 nb (m1 + 1) (nxtJ N0 t (j + 1)) := by
            rw [HJ.out.2.2.2.2.1]
            have h1 : NxtM w5.drew nb (m1 + 1) _ := H5.out.1.below (Below.refl (w5.heap.size + nb + 1) w5).drew (by omega)
            exact (MapK.kept h1 hg6 (fun e => hcbn (by injection e with e; exact e.symm))).kept hg7 (fun e => hcbn (by injection e with e; exact e.symm))
          have hC7 : CntM w7 cb (m2 + 1 + 1) (fun p => C0 p + cntJ t p (j + 1)) := by
            refine (hM7.same fun q => ?_) |> fun h => by
              obtain ⟨m, h1, h2⟩ := h
              exact ⟨m, h1.mono (by omega), h2⟩
            show (if q = p then cp + 1 else C0 q + cntJ t q j) = C0 q + cntJ t q (j + 1)
            rw [HJ.out.2.2.2.2.2.1 q, HCP.out]
            split
            · rename_i h; subst h; omega
            · rfl
          have hB7 : Below w.heap.size w w7 := ((H5.out.2.2.1.drew).grown hg6 (by have := H5.out.2.2.1.size; simpa using this) (fun r hr => by injection hr with hr; omega)).grown hg7 (by rw [hz6]; have := H5.out.2.2.1.size; simpa using this) (fun r hr => by injection hr with hr; omega)
          have hbt7 : Blk w7 tb 58 (encT t).toArray := (H5.out.2.2.2.2.1.drew.grown hg6 (fun e => hcbt (by injection e with e; exact e.symm))).grown hg7 (fun e => hcbt (by injection e with e; exact e.symm))
          have hwr : IntKind.i64.wrap ((cp : Int) + 1) = (cp : Int) + 1 := IntWalk.i64_in _ (by omega)
          have HS0 := hide hS0
          have HS1 := hide hS1
          have H7 := hide (And.intro hN7 (And.intro hC7 (And.intro hB7 hbt7)))
          clear hc5d hlk0 hg6 hz6 hM6 hst6 hlk1 hM7 hg7 hz7 hcpe hcbn hcbw hcbp hcbt hS0 hS1 hb6 hN7 hC7 hB7 hbt7
          refine wp_region_mix (fun W => (Instr.lookup 136 (.map (some cb)) (vP p) false).run Tryz.prog W = .ok (.int .i64 (cp : Nat)) W ∧ (W.cell? ⟨pb, 0, none⟩ = some (.int .i64 p.1) ∧ W.cell? ⟨pb, 1, none⟩ = some (.int .i64 p.2.1) ∧ W.cell? ⟨pb, 2, none⟩ = some (.int .i64 p.2.2))) [0, 1, 2, 3] [0, 1, 2, 3, 4, 5, 6] mixed_ok (by kernel_rfl) ?_
          refine wpMix_q (v := .map (some cb)) rfl rfl (fun _ _ _ h => h) HS0.out ⟨rfl, fun _ h' => by simp [go_sem]⟩ ?_
          refine wpMix_q (v := vP p) rfl rfl (fun _ _ _ h => h) HS0.out ⟨rfl, fun _ h' => by obtain ⟨_, a0, a1, a2⟩ := h'; simp [go_sem, a0, a1, a2]⟩ ?_
          refine wpMix_q (v := .int .i64 (cp : Nat)) rfl rfl (fun _ _ _ h => h) HS0.out ⟨rfl, fun _ h' => by simp [go_sem, h'.1]⟩ ?_
          refine wpMix_q (v := .int .i64 ((cp : Int) + 1)) rfl rfl (fun _ _ _ h => h) HS0.out ⟨rfl, fun _ h' => by simp [go_sem, hwr]⟩ ?_
          simp only [List.getElem_toArray, List.getElem_cons_succ, List.getElem_cons_zero, Act.put, List.setIfInBounds_toArray, List.set_cons_succ, List.set_cons_zero]
          refine wpMix_n rfl rfl ?_
          go_wp2_with fail
          refine ⟨fun _ => HS1.out, ?_⟩
          refine wpMix_n rfl rfl ?_
          go_wp2_with fail
          refine ⟨fun _ => HS1.out, ?_⟩
          refine wpMix_n rfl rfl ?_
          go_wp2_with fail
          refine ⟨fun h => absurd (h.symm.trans (show _ = false by kernel_rfl)) (by simp), wpMix_nil ?_⟩
          go_wp2_with fail
          go_roundw
          case rel => exact ⟨j + 1, m1 + 1, m2 + 1 + 1, by omega, by go_num, ⟨H7.out.1, H7.out.2.1, H7.out.2.2.1⟩, by have := HJ.out.2.1; omega, by have := HJ.out.2.2.1; omega, H7.out.2.2.2⟩
          case measure => simp [intOf]; omega
        · have hje : j = 3 := by omega
          subst hje
          have i2 : ¬ ((3 : Nat) : Int) < 3 := by omega
          have HE := hide (And.intro hP (And.intro hm1 hm2))
          clear hP hm1 hm2 hbt
          go_wp2
          go_roundw
          case rel =>
            refine ⟨k + 1, m1, m2, by omega, by go_num, ⟨?_, ?_, HE.out.1.bel⟩, by have := HE.out.2.1; omega, by have := HE.out.2.2; omega⟩
            · rw [HK.out.2.2.1]; exact HE.out.1.nxt
            · exact HE.out.1.cnt.same fun p => (HK.out.2.2.2.1 p).symm
          case measure => simp [intOf]; omega
    · have hke : k = M := by omega
      subst hke
      rw [List.take_of_length_le (by have := HS.out.2.2.1; omega)] at hP
      have hx := nxtN_beh HS.out.2.2.2
      obtain ⟨N1, hN1⟩ : ∃ N, N = nxtN ts := ⟨_, rfl⟩
      obtain ⟨C1, hC1⟩ : ∃ N, N = cntC ts := ⟨_, rfl⟩
      have hC1le : ∀ p, C1 p ≤ 300000000 := fun p => by rw [hC1]; have := cntC_le ts p; have := HS.out.2.2.1; omega
      rw [← hN1, ← hC1] at hP
      rw [← hN1] at hx
      have hR : ∀ e x, N1 e = some x → ringM ts e = prgO (fun q => N1 (e.1, q)) e.2 (C1 e.1) (C1 e.1) 1 x := fun e x h => by
        rw [hx] at h
        unfold ringM
        rw [h, hC1]
        have : (fun q => N1 (e.1, q)) = fun q => behP ts e.1 q := funext fun q => hx (e.1, q)
        rw [this]
      have hmem : ∀ e, e ∈ edgesP ts → ∃ x, N1 e = some x := fun e he => by rw [hx]; exact behP_has he
      have hmem2 : ∀ e x, N1 e = some x → e ∈ edgesP ts := fun e x h => by
        refine Classical.byContradiction fun hc => ?_
        rw [hx, behP_mem hc] at h
        cases h
      have hfx : ∀ e x, N1 e = some x → fitsP x := fun e x h => by rw [hx] at h; exact behP_fits HS.out.2.1 h
      have hfe := edgesP_fits HS.out.2.1
      rw [← HER.out.1] at hfe
      simp only [← HER.out.1] at hmem hmem2
      simp only [← HER.out.2] at hR
      have HR := hide (And.intro hR (And.intro hmem (And.intro hmem2 (And.intro hfx (And.intro hfe hC1le)))))
      clear hR hmem hmem2 hfx hfe hx hN1 hC1 hC1le
      obtain ⟨w1, c0, hrun, hrg, hg1, hz1, _⟩ := MapK.range_le kfE4 (t := 135) (e := 41) hP.nxt Tryz.underlying135
      have hB1 := below_of_grown_none hg1 (Nat.le_refl _)
      have hcn1 := hP.cnt.below hB1 hP.cnt.lt
      have hBw1 := hP.bel.trans (hB1.mono hP.bel.size)
      have hzV := hP.bel.size
      have hnbV := hP.nxt.lt
      have hcbV := hP.cnt.lt
      obtain ⟨rb, hrb⟩ : ∃ b, b = V.heap.size := ⟨_, rfl⟩
      rw [← hrb] at hrun hrg
      have HV := hide (And.intro hrg (And.intro hcn1 (And.intro hBw1 (And.intro (show w.heap.size ≤ rb by omega) (And.intro (show nb < rb by omega) (show cb < rb by omega))))))
      clear hrg hcn1 hBw1 hB1 hg1 hz1 hP hn1 hn2 hzV hnbV hcbV hrb
      go_wp2_with fail
      go_loopw [] (fun wr => ∃ (left : Ed → Bool) (c : Nat), RngK Tryz.prog 81 vE fitsE wr nb rb n1 (fun e => (N1 e).map vP) left c ∧ CntM wr cb n2 C1 ∧ (∀ e ∈ E, left e = true ∨ Rg e = false) ∧ Below w.heap.size w wr) (fun wr => wr.rangeLeft nb rb)
      case atStart => exact ⟨_, c0, HV.out.1, HV.out.2.1, fun e he => .inl (by obtain ⟨x, hx⟩ := HR.out.2.1 e he; rw [hx]; rfl), HV.out.2.2.1⟩
      case round =>
        obtain ⟨left, c', hrg, hC, hall, hB⟩ := hrel
        obtain ⟨U, rfl⟩ : ∃ V, V = wr := ⟨_, rfl⟩
        have hHL := hrg.left_eq
        rcases hrg.next kfE4 0 with ⟨_, hdone, hrunN⟩ | ⟨e, pv, w8, c'', hok, hleft, hm8, hrunN, hr8, hlt8, hg8, hz8, hent⟩
        · have hres : E.any Rg = false := by
            rw [List.any_eq_false]
            intro e he
            rcases hall e he with h | h
            · rw [hdone e (HR.out.2.2.2.2.1 e he)] at h; cases h
            · rw [h]; simp
          have HE := hide (And.intro hres hB)
          clear hrg hC hall hB hHL hdone hres hrun
          go_wp2
          go_ret
          exact ⟨by rw [HE.out.1]; rfl, HE.out.2⟩
        · obtain ⟨x, hx⟩ : ∃ x, N1 e = some x := by
            cases hN : N1 e with
            | none => rw [hN] at hm8; cases hm8
            | some x => exact ⟨x, rfl⟩
          have hfx := HR.out.2.2.2.1 e x hx
          have hC8 : CntM w8 cb n2 C1 := hC.kept hg8 (fun e => by injection e with e; have := HV.out.2.2.2.2.2; omega)
          have hB8 : Below w.heap.size w w8 := hB.grown hg8 hB.size (fun r hr => by injection hr with hr; have := HV.out.2.2.2.1; omega)
          have hring := HR.out.1 e x hx
          have HU := hide (And.intro hr8 (And.intro hC8 (And.intro hB8 (And.intro hall (And.intro hlt8 (And.intro hHL (And.intro hx hring)))))))
          clear hrg hC hall hB hHL hr8 hC8 hB8 hlt8 hm8 hg8 hz8 hring hleft hx hrun
          go_upto_region 16 with fail
          clear hrunN hent
          obtain ⟨Y, hY⟩ : ∃ Y, Y = w8.alloc (.cells (cE e) 81) := ⟨_, rfl⟩
          rw [← hY]
          have hBY : Below w8.heap.size w8 Y := by rw [hY]; exact (Below.refl _ w8).alloc (Nat.le_refl _) _
          have heY : Blk Y w8.heap.size 81 (cE e) := by rw [hY]; exact Blk.new _ _ _
          obtain ⟨eb, heb⟩ : ∃ b, b = w8.heap.size := ⟨_, rfl⟩
          rw [← heb] at heY ⊢
          have hrY := HU.out.1.below hBY (Nat.le_refl _)
          have hCY := HU.out.2.1.below hBY HU.out.2.1.lt
          have hlkY : (Instr.lookup 135 (.map (some nb)) (vE e) false).run Tryz.prog Y = .ok (vP x) Y := by
            have h1 : NxtM Y nb n1 N1 := hrY.map
            have := h1.look e hok
            rw [HU.out.2.2.2.2.2.2.1] at this
            exact this
          obtain ⟨x0, x1, x2, x3, x4, x5⟩ := heY.six4
          have hzY : Y.heap.size = eb + 1 := by rw [hY, heb]; simp
          have HY := hide (And.intro heY (And.intro hrY (And.intro hCY (And.intro (HU.out.2.2.1.trans (hBY.mono HU.out.2.2.1.size)) hzY))))
          clear hY hBY heY hrY hCY heb hzY
          go_upto_block 6 with fail
          obtain ⟨ab, hab⟩ : ∃ b, b = Y.heap.size := ⟨_, rfl⟩
          rw [← hab]
          have hbx : Blk (Y.alloc (.cells #[.int .i64 x.1, .int .i64 x.2.1, .int .i64 x.2.2] 41)) ab 41 #[.int .i64 x.1, .int .i64 x.2.1, .int .i64 x.2.2] := by rw [hab]; exact Blk.new _ _ _
          have hBx : Below ab Y (Y.alloc (.cells #[.int .i64 x.1, .int .i64 x.2.1, .int .i64 x.2.2] 41)) := by rw [hab]; exact (Below.refl _ Y).alloc (Nat.le_refl _) _
          have hab2 : ab = eb + 1 := by have := HY.out.2.2.2.2; omega
          have HAB := hide hab2
          have hebab : eb < ab := by omega
          have hme := HR.out.2.2.2.2.2 e.1
          have hring := HU.out.2.2.2.2.2.2.2
          obtain ⟨m, hm⟩ : ∃ m, m = C1 e.1 := ⟨_, rfl⟩
          obtain ⟨bq, hbq⟩ : ∃ b, b = fun q => N1 (e.1, q) := ⟨_, rfl⟩
          rw [← hm] at hme hring
          rw [← hbq] at hring
          have hlks : ∀ W, Below ab Y W → (Instr.lookup 136 (.map (some cb)) (vP e.1) false).run Tryz.prog W = .ok (.int .i64 (m : Nat)) W ∧ (∀ a, fitsP a → (Instr.lookup 135 (.map (some nb)) (vE (e.1, a)) true).run Tryz.prog W = .ok (.tuple #[vP ((bq a).getD (0, 0, 0)), .bool (bq a).isSome]) W) ∧ Blk W eb 81 (cE e) := fun W hW => by
            refine ⟨?_, fun a ha => ?_, HY.out.1.below hW (by omega)⟩
            · rw [hm]
              exact (HY.out.2.2.1.below hW (by have := HY.out.2.2.1.lt; omega)).look e.1 hok.1
            · rw [hbq]
              have h1 : NxtM Y nb n1 N1 := HY.out.2.1.map
              exact (show NxtM W nb n1 N1 from MapK.below h1 hW (by have := h1.lt; omega)).look_ok (e.1, a) ⟨hok.1, ha⟩
          have HL := hide (And.intro hlks (And.intro hring (And.intro hbx (And.intro hBx (And.intro hfx (And.intro hbq hab))))))
          clear hlks hring hbx hBx hbq hm hfx hab hab2 hlkY x0 x1 x2 x3 x4 x5
          go_cut [10] (fun sv wx => ∃ (size : Nat) (a : Pt), sv = .int .i64 size ∧ size ≤ m + 1 ∧ fitsP a ∧ Blk wx ab 41 #[.int .i64 a.1, .int .i64 a.2.1, .int .i64 a.2.2] ∧ Rg e = (decide (a = e.2) && decide (size < m)) ∧ Below ab Y wx)
          case first =>
            go_wp2_with fail
            go_loopw [10] (fun sv wx => ∃ (size f : Nat) (a : Pt), sv = .int .i64 size ∧ 1 ≤ size ∧ f + size = m + 1 ∧ fitsP a ∧ Blk wx ab 41 #[.int .i64 a.1, .int .i64 a.2.1, .int .i64 a.2.2] ∧ Rg e = prgO bq e.2 m f size a ∧ Below ab Y wx) (fun sv _ => m + 2 - (intOf sv).toNat)
            case atStart => exact ⟨1, m, x, rfl, by omega, by omega, HL.out.2.2.2.2.1, HL.out.2.2.1, HL.out.2.1, HL.out.2.2.2.1⟩
            case round =>
              obtain ⟨size, f, a, rfl, hs1, hfs, hfa, hba, hrg, hB⟩ := hrel
              obtain ⟨T, rfl⟩ : ∃ V, V = wr := ⟨_, rfl⟩
              obtain ⟨hk1, hk2, hbe⟩ := HL.out.1 T hB
              have hk2a := hk2 a hfa
              obtain ⟨y0, y1, y2, y3, y4, y5⟩ := hbe.six4
              obtain ⟨z0, z1, z2⟩ := hba.three
              have heq := eqP a e.2 hfa hok.2
              have hzT := hB.size
              have hltT := hba.lt
              have hfra0 := hba.frozen 0
              have hfra1 := hba.frozen 1
              have hfra2 := hba.frozen 2
              by_cases has : a = e.2
              · have hd : decide (a = e.2) = true := decide_eq_true has
                rw [hd] at heq
                have hst := prgO_stop bq e.2 m f size a (.inl has)
                have HT := hide (And.intro hfa (And.intro hba (And.intro (hrg.trans hst) hB)))
                clear hfa hba hrg hB has hd hst hk2 hbe hk2a hk1
                go_wp2_with fail
                go_meet
                case rel => exact ⟨size, a, rfl, by omega, HT.out.1, HT.out.2.1, HT.out.2.2.1, HT.out.2.2.2⟩
              · have hd : decide (a = e.2) = false := decide_eq_false has
                rw [hd] at heq
                by_cases hsm : size ≤ m
                · have i5 : (size : Int) ≤ (m : Int) := by omega
                  obtain ⟨f', rfl⟩ : ∃ f', f = f' + 1 := ⟨f - 1, by omega⟩
                  cases hbn : bq a with
                  | none =>
                    rw [hbn] at hk2a
                    have hst := prgO_none bq e.2 m (f' + 1) size a has hbn
                    have HT := hide (And.intro hfa (And.intro hba (And.intro (hrg.trans hst) hB)))
                    clear hfa hba hrg hB has hd hst hk2 hbe hbn hsm
                    go_wp2_with fail
                    go_meet
                    case rel =>
                      exact ⟨size, a, rfl, by omega, HT.out.1, HT.out.2.1.alloc _, HT.out.2.2.1, HT.out.2.2.2.alloc (by omega) _⟩
                  | some y =>
                    rw [hbn] at hk2a
                    have hst := prgO_some bq e.2 m f' size a y has hsm hbn
                    have hfy : fitsP y := by
                      have := HL.out.2.2.2.2.2.1
                      rw [this] at hbn
                      exact HR.out.2.2.2.1 _ _ hbn
                    have HT := hide (And.intro hfy (And.intro hba (And.intro (hrg.trans hst) hB)))
                    clear hfa hba hrg hB has hd hst hk2 hbe hbn hfy
                    go_wp2_with fail
                    go_roundw
                    case rel =>
                      refine ⟨size + 1, f', y, by go_num, by omega, by omega, HT.out.1, ?_, HT.out.2.2.1, ?_⟩
                      · exact (HT.out.2.1.set3 _ _ _).alloc _
                      · exact (((HT.out.2.2.2.setCell (by dsimp only; omega) _).setCell (by dsimp only; omega) _).setCell (by dsimp only; omega) _).alloc (by simp [World.setCell]; omega) _
                    case measure => simp [intOf]; omega
                · have i5 : ¬ (size : Int) ≤ (m : Int) := by omega
                  have hst := prgO_stop bq e.2 m f size a (.inr (by omega))
                  have HT := hide (And.intro hfa (And.intro hba (And.intro (hrg.trans hst) hB)))
                  clear hfa hba hrg hB has hd hst hk2 hbe hk2a
                  go_wp2_with fail
                  go_meet
                  case rel => exact ⟨size, a, rfl, by omega, HT.out.1, HT.out.2.1, HT.out.2.2.1, HT.out.2.2.2⟩
          case rest =>
            obtain ⟨size, a, rfl, hsz, hfa, hba, hrg, hB⟩ := hcut
            obtain ⟨T, rfl⟩ : ∃ T, T = wc := ⟨_, rfl⟩
            obtain ⟨hk1, _, hbe⟩ := HL.out.1 T hB
            obtain ⟨y0, y1, y2, y3, y4, y5⟩ := hbe.six4
            obtain ⟨z0, z1, z2⟩ := hba.three
            have heq := eqP a e.2 hfa hok.2
            have hBw := HY.out.2.2.2.1.trans (hB.mono (by have := HL.out.2.2.2.2.2.2; have := HY.out.2.2.2.1.size; omega))
            have hrT := HY.out.2.1.below hB (by have := HL.out.2.2.2.2.2.2; omega)
            have hCT := HY.out.2.2.1.below hB (by have := HL.out.2.2.2.2.2.2; have := HY.out.2.2.1.lt; omega)
            by_cases hyes : a = e.2 ∧ size < m
            · have hd : decide (a = e.2) = true := decide_eq_true hyes.1
              rw [hd] at heq
              have i5 : (size : Int) < (m : Int) := by omega
              have hres : E.any Rg = true := List.any_eq_true.2 ⟨e, HR.out.2.2.1 e x HU.out.2.2.2.2.2.2.1, by rw [hrg, decide_eq_true hyes.1, decide_eq_true hyes.2]; rfl⟩
              have HE := hide (And.intro hres hBw)
              clear hyes hd hres hfa hba hrg hB hbe hBw hrT hCT
              go_wp2
              go_ret
              exact ⟨by rw [HE.out.1]; rfl, HE.out.2⟩
            · have hno : Rg e = false := by
                rw [hrg, Bool.and_eq_false_iff, decide_eq_false_iff_not, decide_eq_false_iff_not]
                by_cases h1 : a = e.2
                · exact .inr fun h2 => hyes ⟨h1, h2⟩
                · exact .inl h1
              have HE := hide (And.intro hrT (And.intro hCT (And.intro hno hBw)))
              have fin : ∀ e' ∈ E, (left e' && !decide (e' = e)) = true ∨ Rg e' = false := fun e' he' => by
                by_cases h1 : e' = e
                · rw [h1]; exact .inr hno
                · rcases HU.out.2.2.2.1 e' he' with h2 | h2
                  · exact .inl (by simp [h1, h2])
                  · exact .inr h2
              have HF := hide fin
              clear hrg hno hBw hrT hCT hbe hB hba fin
              by_cases h1 : a = e.2
              · have i5 : ¬ (size : Int) < (m : Int) := fun h2 => hyes ⟨h1, by omega⟩
                have hd : decide (a = e.2) = true := decide_eq_true h1
                rw [hd] at heq
                clear hyes h1 hd hfa
                go_wp2
                go_roundw
                case rel => exact ⟨_, c'', HE.out.1, HE.out.2.1, HF.out, HE.out.2.2.2⟩
                case measure =>
                  rw [HE.out.1.left_eq, HU.out.2.2.2.2.2.1]
                  exact HU.out.2.2.2.2.1
              · have hd : decide (a = e.2) = false := decide_eq_false h1
                rw [hd] at heq
                clear hyes h1 hd hfa
                go_wp2
                go_roundw
                case rel => exact ⟨_, c'', HE.out.1, HE.out.2.1, HF.out, HE.out.2.2.2⟩
                case measure =>
                  rw [HE.out.1.left_eq, HU.out.2.2.2.2.2.1]
                  exact HU.out.2.2.2.2.1
end Go.Proofs.YtelfnmohpjkilaaGreatDoor
namespace Go.Proofs.YtelfnmohpjkilaaGreatDoor
open Go.RowKit Go.Sort Go.WideMaps Go.Maps
set_option maxRecDepth 100000
theorem flatT_no {t : Tri} (h1 : t.1 ≠ t.2.1) (h2 : t.2.1 ≠ t.2.2) (h3 : t.2.2 ≠ t.1) : flatT t = false := by
  unfold flatT
  rw [decide_eq_false h1, decide_eq_false h2, decide_eq_false h3]; rfl
theorem flatT_yes {t : Tri} (h : t.1 = t.2.1 ∨ t.2.1 = t.2.2 ∨ t.2.2 = t.1) : flatT t = true := by
  unfold flatT
  rcases h with h | h | h
  · rw [decide_eq_true h]; rfl
  · rw [decide_eq_true h]; simp
  · rw [decide_eq_true h]; simp
theorem lenE4 {w : World} {ob m : Nat} {K : List Ed} (hM : SetEM w ob m K) (hn : K.Nodup) (hf : ∀ p ∈ K, fitsE p) : (Builtin.len_ #[74] 3 #[.map (some ob)]).run Tryz.prog w = .ok (.int .i64 K.length) w := by
  refine MapK.len kfE4 (t := 74) (e := 4) hM Tryz.underlying74 _ hn hf (fun p _ => ?_) _
  unfold setK4
  by_cases h : p ∈ K
  · rw [if_pos h]; exact ⟨fun _ e => (by cases e), fun _ => h⟩
  · rw [if_neg h]; exact ⟨fun h' => absurd h' h, fun h' => absurd rfl h'⟩
set_option maxHeartbeats 16000000 in
theorem check4_any (A : Option Addr) (c : Nat) (ts : List Tri) (op : Bool) (w : World) (hs : Sl encT 9 w w.heap.size A ts) (hl : ts.length ≤ 100000000) (hf : ∀ t ∈ ts, fitsT t) :
    Calls Tryz.prog 42 #[.slice A ts.length c, .bool op] w fun e w' => e = .returned (.int .i64 (checkP ts op)) ∧ Below w.heap.size w w' := by
  obtain ⟨R, hR⟩ : ∃ R, R = checkP ts op := ⟨_, rfl⟩
  rw [← hR]
  rw [check_is] at hR
  have hcd := fun W (hW : Below w.heap.size w W) => directed4_any A c ts W ((hs.below hW).more hW.size) hl hf
  have hpi := fun (hnd : (edgesP ts).Nodup) W (hW : Below w.heap.size w W) => pinched4_any A c ts W ((hs.below hW).more hW.size) hl hf hnd
  have hdl := dedup_length (edgesP ts)
  have hel := edgesP_length ts
  have hfe : ∀ p ∈ dedup (edgesP ts), fitsE p := fun p hp => edgesP_fits hf p (dedup_mem.1 hp)
  have hbo := fun W mb n (hM : SetEM W mb n (dedup (edgesP ts))) => border4_any mb n _ W hM (dedup_nodup _) hfe (by omega)
  have hln := fun W ob m (K : List Ed) (hM : SetEM W ob m K) (hn : K.Nodup) (hm : ∀ p, p ∈ K ↔ p ∈ dedup (edgesP ts) ∧ swapE p ∉ dedup (edgesP ts)) => by
    have h0 := lenE4 hM hn (fun p hp => hfe p ((hm p).1 hp).1)
    have hse : sortG ltE K = borderP ts := border_sort hn fun e => by rw [hm, dedup_mem, dedup_mem]
    rw [show K.length = (borderP ts).length by rw [← hse, sortG_length]] at h0
    exact h0
  have hnb : ndB (edgesP ts) = true ↔ (edgesP ts).Nodup := ndB_iff
  obtain ⟨E, hE⟩ : ∃ E, E = edgesP ts := ⟨_, rfl⟩
  obtain ⟨B, hB⟩ : ∃ B, B = (borderP ts).length := ⟨_, rfl⟩
  obtain ⟨M, hM⟩ : ∃ n, n = ts.length := ⟨_, rfl⟩
  have hBb : B ≤ 300000000 := by rw [hB]; have := borderP_le ts; omega
  rw [← hE] at hR hcd hpi hbo hln hnb
  rw [← hB] at hR hln
  rw [← hM] at hl hcd hpi ⊢
  obtain ⟨Rg, hRg⟩ : ∃ b, b = E.any (ringM ts) := ⟨_, rfl⟩
  rw [← hRg] at hR hpi
  obtain ⟨f0, hf0⟩ : ∃ b, b = ndB E := ⟨_, rfl⟩
  rw [← hf0] at hcd hnb
  have HS := hide (And.intro hs (And.intro hf (And.intro hM hR)))
  have HC := hide (And.intro hcd (And.intro hpi (And.intro hbo (And.intro hln hnb))))
  clear hs hf hM hR hcd hpi hdl hel hfe hbo hln hnb hE hB hRg hf0
  go_enter Tryz.func42, Tryz.ntmps42
  go_wp2_with fail
  go_loopw [11] (fun iv wr => ∃ k : Nat, k ≤ M ∧ iv = .int .i64 k ∧ (∀ i t, i < k → ts[i]? = some t → flatT t = false) ∧ Below w.heap.size w wr) (fun iv _ => M - (intOf iv).toNat)
  case atStart => exact ⟨0, by omega, rfl, fun i t h => absurd h (by omega), Below.refl _ w⟩
  case round =>
    obtain ⟨k, hk, rfl, hno, hB⟩ := hrel
    obtain ⟨V, rfl⟩ : ∃ V, V = wr := ⟨_, rfl⟩
    by_cases hlt : k < M
    · obtain ⟨t, ht⟩ : ∃ t, ts[k]? = some t := ⟨_, List.getElem?_eq_getElem (by rw [← HS.out.2.2.1]; exact hlt)⟩
      have i1 : (k : Int) < (M : Int) := by omega
      obtain ⟨b, o, hA, hbb, g0, g1, g2, g3, g4, g5, g6, g7, g8⟩ := (HS.out.1.below hB).tri ht
      subst hA
      have hft := HS.out.2.1 t (List.mem_of_getElem? ht)
      have e1 := eqP t.1 t.2.1 hft.1 hft.2.1
      have e2 := eqP t.2.1 t.2.2 hft.2.1 hft.2.2
      have e3 := eqP t.2.2 t.1 hft.2.2 hft.1
      have hzV := hB.size
      have hbad : flatT t = true → R = 20 := fun h => by rw [HS.out.2.2.2, if_pos (List.any_eq_true.2 ⟨t, List.mem_of_getElem? ht, h⟩)]
      have HK := hide (And.intro hno (And.intro hB (And.intro ht hbad)))
      clear hno hB ht hft hbad
      by_cases h1 : t.1 = t.2.1
      · rw [decide_eq_true h1] at e1
        have hR := HK.out.2.2.2 (flatT_yes (.inl h1))
        have HR := hide hR
        clear hR h1 e2 e3
        go_wp2
        go_ret
        exact ⟨by rw [HR.out]; rfl, HK.out.2.1.alloc hzV _⟩
      · rw [decide_eq_false h1] at e1
        by_cases h2 : t.2.1 = t.2.2
        · rw [decide_eq_true h2] at e2
          have hR := HK.out.2.2.2 (flatT_yes (.inr (.inl h2)))
          have HR := hide hR
          clear hR h1 h2 e3
          go_wp2
          go_ret
          exact ⟨by rw [HR.out]; rfl, HK.out.2.1.alloc hzV _⟩
        · rw [decide_eq_false h2] at e2
          by_cases h3 : t.2.2 = t.1
          · rw [decide_eq_true h3] at e3
            have hR := HK.out.2.2.2 (flatT_yes (.inr (.inr h3)))
            have HR := hide hR
            clear hR h1 h2 h3
            go_wp2
            go_ret
            exact ⟨by rw [HR.out]; rfl, HK.out.2.1.alloc hzV _⟩
          · rw [decide_eq_false h3] at e3
            have HN := hide (flatT_no h1 h2 h3)
            clear h1 h2 h3
            go_wp2
            go_roundw
            case rel =>
              refine ⟨k + 1, by omega, by go_num, fun i u hi hu => ?_, HK.out.2.1.alloc hzV _⟩
              rcases Nat.lt_or_ge i k with h | h
              · exact HK.out.1 i u h hu
              · have e : i = k := by omega
                subst e
                rw [HK.out.2.2.1] at hu
                cases hu
                exact HN.out
            case measure => simp [intOf]; omega
    · have hke : k = M := by omega
      subst hke
      have hany : ts.any flatT = false := any_none HS.out.2.2.1 (Nat.le_refl _) hno
      have hR := HS.out.2.2.2
      rw [if_neg (by rw [hany]; simp)] at hR
      have hcd := HC.out.1 V hB
      have HV := hide (And.intro hR hB)
      have hzV := hB.size
      have HD := hide hcd
      clear hno hB hany hR hcd hlt
      cases hf0 : f0 with
      | false =>
        subst hf0
        have hR : R = 21 := by
          rw [HV.out.1, if_pos]
          intro hc
          have := HC.out.2.2.2.2.2 hc
          cases this
        have HR := hide hR
        clear hR
        go_wp2_with (go_at_call 48; refine (unhide HD).mono ?_; rintro e w1 ⟨mb, n, rfl, hM1, hn1, hmb1, hB1⟩)
        go_ret
        exact ⟨by rw [HR.out]; rfl, HV.out.2.trans (hB1.mono hzV)⟩
      | true =>
        subst hf0
        have hnd := HC.out.2.2.2.2.1 rfl
        have hR := HV.out.1
        rw [if_neg (fun h => h hnd)] at hR
        have hpi := HC.out.2.1 hnd
        have HP := hide (And.intro hR hpi)
        clear hR hpi hnd
        cases hop : op with
        | true =>
          subst hop
          have hR := HP.out.1
          rw [if_neg (by simp)] at hR
          cases hrg : Rg with
          | true =>
            subst hrg
            rw [if_pos rfl] at hR
            have HR := hide hR
            clear hR
            go_wp2_with (first
              | (go_at_call 48; refine (unhide HD).mono ?_; rintro e w1 ⟨mb, n, rfl, hM1, hn1, hmb1, hB1⟩; have hB1' := HV.out.2.trans (hB1.mono hzV); have HB1 := hide hB1'; clear hM1 hn1 hmb1 hB1 hB1')
              | (go_at_call 80; refine (HP.out.2 w1 HB1.out).mono ?_; rintro e w2 ⟨rfl, hB2⟩))
            go_ret
            exact ⟨by rw [HR.out]; rfl, HB1.out.trans (hB2.mono HB1.out.size)⟩
          | false =>
            subst hrg
            rw [if_neg (by simp)] at hR
            have HR := hide hR
            clear hR
            go_wp2_with (first
              | (go_at_call 48; refine (unhide HD).mono ?_; rintro e w1 ⟨mb, n, rfl, hM1, hn1, hmb1, hB1⟩; have hB1' := HV.out.2.trans (hB1.mono hzV); have HB1 := hide hB1'; clear hM1 hn1 hmb1 hB1 hB1')
              | (go_at_call 80; refine (HP.out.2 w1 HB1.out).mono ?_; rintro e w2 ⟨rfl, hB2⟩))
            go_ret
            exact ⟨by rw [HR.out]; rfl, HB1.out.trans (hB2.mono HB1.out.size)⟩
        | false =>
          subst hop
          by_cases hb0 : 0 < B
          · have i5 : (0 : Int) < (B : Int) := by omega
            have hR := HP.out.1
            rw [if_pos (by simpa using hb0)] at hR
            have HR := hide hR
            clear hR hb0
            go_wp2_with (first
              | (go_at_call 48; refine (unhide HD).mono ?_; rintro e w1 ⟨mb, n, rfl, hM1, hn1, hmb1, hB1⟩; have hB1' := HV.out.2.trans (hB1.mono hzV); have HB1 := hide (And.intro hB1' (HC.out.2.2.1 w1 mb n hM1)); clear hM1 hn1 hmb1 hB1 hB1')
              | (go_at_call 49; refine (unhide HB1).2.mono ?_; rintro e w2 ⟨ob, m, K, rfl, hM2, hn2, hm2, hob2, hB2⟩; have hl2 := HC.out.2.2.2.1 w2 ob m K hM2 hn2 hm2; have HB2 := hide (HB1.out.1.trans (hB2.mono HB1.out.1.size)); clear hM2 hn2 hm2 hob2 hB2))
            go_ret
            exact ⟨by rw [HR.out]; rfl, HB2.out⟩
          · have i5 : ¬ (0 : Int) < (B : Int) := by omega
            have hR := HP.out.1
            rw [if_neg (by simpa using hb0)] at hR
            clear hb0
            cases hrg : Rg with
            | true =>
              subst hrg
              rw [if_pos rfl] at hR
              have HR := hide hR
              clear hR
              go_wp2_with (first
                | (go_at_call 48; refine (unhide HD).mono ?_; rintro e w1 ⟨mb, n, rfl, hM1, hn1, hmb1, hB1⟩; have hB1' := HV.out.2.trans (hB1.mono hzV); have HB1 := hide (And.intro hB1' (HC.out.2.2.1 w1 mb n hM1)); clear hM1 hn1 hmb1 hB1 hB1')
                | (go_at_call 49; refine (unhide HB1).2.mono ?_; rintro e w2 ⟨ob, m, K, rfl, hM2, hn2, hm2, hob2, hB2⟩; have hl2 := HC.out.2.2.2.1 w2 ob m K hM2 hn2 hm2; have HB2 := hide (HB1.out.1.trans (hB2.mono HB1.out.1.size)); clear hM2 hn2 hm2 hob2 hB2)
                | (go_at_call 80; refine (HP.out.2 w2 HB2.out).mono ?_; rintro e w3 ⟨rfl, hB3⟩))
              go_ret
              exact ⟨by rw [HR.out]; rfl, HB2.out.trans (hB3.mono HB2.out.size)⟩
            | false =>
              subst hrg
              rw [if_neg (by simp)] at hR
              have HR := hide hR
              clear hR
              go_wp2_with (first
                | (go_at_call 48; refine (unhide HD).mono ?_; rintro e w1 ⟨mb, n, rfl, hM1, hn1, hmb1, hB1⟩; have hB1' := HV.out.2.trans (hB1.mono hzV); have HB1 := hide (And.intro hB1' (HC.out.2.2.1 w1 mb n hM1)); clear hM1 hn1 hmb1 hB1 hB1')
                | (go_at_call 49; refine (unhide HB1).2.mono ?_; rintro e w2 ⟨ob, m, K, rfl, hM2, hn2, hm2, hob2, hB2⟩; have hl2 := HC.out.2.2.2.1 w2 ob m K hM2 hn2 hm2; have HB2 := hide (HB1.out.1.trans (hB2.mono HB1.out.1.size)); clear hM2 hn2 hm2 hob2 hB2)
                | (go_at_call 80; refine (HP.out.2 w2 HB2.out).mono ?_; rintro e w3 ⟨rfl, hB3⟩))
              go_ret
              exact ⟨by rw [HR.out]; rfl, HB2.out.trans (hB3.mono HB2.out.size)⟩
theorem Check4_any (A : Option Addr) (c : Nat) (ts : List Tri) (w : World) (hs : Sl encT 9 w w.heap.size A ts) (hl : ts.length ≤ 100000000) (hf : ∀ t ∈ ts, fitsT t) :
    Calls Tryz.prog 14 #[.slice A ts.length c] w fun e w' => e = .returned (.int .i64 (checkP ts false)) ∧ Below w.heap.size w w' := by
  have hc := check4_any A c ts false w hs hl hf
  obtain ⟨R, hR⟩ : ∃ R, R = checkP ts false := ⟨_, rfl⟩
  obtain ⟨M, hM⟩ : ∃ R, R = ts.length := ⟨_, rfl⟩
  rw [← hR, ← hM] at hc ⊢
  have HC := hide hc
  clear hs hf hR hM hc hl
  go_enter Tryz.func14, Tryz.ntmps14
  go_wp2_with (go_at_call 42; refine (unhide HC).mono ?_; rintro e w1 ⟨rfl, hB1⟩)
  go_ret
  exact ⟨rfl, hB1⟩
theorem CheckOpen4_any (A : Option Addr) (c : Nat) (ts : List Tri) (w : World) (hs : Sl encT 9 w w.heap.size A ts) (hl : ts.length ≤ 100000000) (hf : ∀ t ∈ ts, fitsT t) :
    Calls Tryz.prog 16 #[.slice A ts.length c] w fun e w' => e = .returned (.int .i64 (checkP ts true)) ∧ Below w.heap.size w w' := by
  have hc := check4_any A c ts true w hs hl hf
  obtain ⟨R, hR⟩ : ∃ R, R = checkP ts true := ⟨_, rfl⟩
  obtain ⟨M, hM⟩ : ∃ R, R = ts.length := ⟨_, rfl⟩
  rw [← hR, ← hM] at hc ⊢
  have HC := hide hc
  clear hs hf hR hM hc hl
  go_enter Tryz.func16, Tryz.ntmps16
  go_wp2_with (go_at_call 42; refine (unhide HC).mono ?_; rintro e w1 ⟨rfl, hB1⟩)
  go_ret
  exact ⟨rfl, hB1⟩
end Go.Proofs.YtelfnmohpjkilaaGreatDoor
