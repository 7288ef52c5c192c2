/- Par4. -/
import Derived.WalkKit
import Derived.WalkSpells
import Derived.WalkLawsBesides
import Derived.Laws.OwnMore
import Derived.Deep.AppendLies
import Derived.Deep.Draws
import Derived.Maps.AppendAt
import Derived.OwnWalk
import Derived.Sort.Grow
import Derived.Shelf.GgSortFunc.RowK
import Derived.RangeFuncNested
import Derived.RangeFuncBox
import Derived.Test.YtelfnmohpjkilaaGreatDoorRows
import Derived.Handy
import Derived.Maps.Own
import Derived.Maps.Views
import Derived.DeepKeys4
import Derived.DeepKeys
import Derived.Laws.StructEq
import Derived.Deep.QuietTactic
import Derived.BigQuiet
import Derived.LoopN
import Derived.Laws.EntriesVeiled
import Derived.Shelf.SlSortCmp.QuietGrown
import Derived.Deep.RegionHeld3
import Derived.Deep.DrawnRows
import Derived.Sort.Statements
import Derived.Shelf.SlSortCmp.NoneTotal
import Derived.OrdersHeld
import Derived.OrdersIn
import Derived.RangeFuncCalls
import Derived.OwnWalkIn
import Derived.Deep.CutBlock
import Derived.Deep.DeepCutAuto
import Derived.Maps.OwnSet
import Derived.Maps.RangeWalk
import Derived.WideKeyEntry
import Derived.IntWalk
import Derived.Deep.MidRow
import Derived.StillTailTactics
import Derived.Shelf.RegionOpen
import Derived.Deep.WholeRow
import Derived.Test.YtelfnmohpjkilaaGreatDoorQ31
namespace Go.Proofs.YtelfnmohpjkilaaGreatDoor
open Go.RowKit Go.Sort Go.WideMaps Go.Maps
set_option maxRecDepth 100000 in
set_option maxHeartbeats 64000000 in
theorem parts4_any (A : Option Addr) (c : Nat) (ts : List Tri) (w : World) (hs : Sl encT 9 w w.heap.size A ts) (hl : ts.length ≤ 100000) (hf : ∀ t ∈ ts, fitsT t) (S : Nat → Nat → Bool) (hS : ClsS (canonO ts) S) :
    Calls Tryz.prog 34 #[.slice A ts.length c] w fun e w' => ∃ v, e = .returned v ∧ PcsD encT 9 58 28 w' w.heap.size v (partsT (canonO ts) S (canonO ts).length) ∧ Below w.heap.size w w' := by
  have hmm := @run_makeMap Tryz.prog
  have hcan := canon_own A c ts w hs (by omega)
  simp only [canonTO] at hcan
  have hfC : ∀ t ∈ canonO ts, fitsT t := fun t ht => fitsT_canon hf t ht
  have hCl := canonO_length ts
  have htog := canon_together ts
  obtain ⟨C, hC⟩ : ∃ C, C = canonO ts := ⟨_, rfl⟩
  rw [← hC] at hcan hS hfC hCl htog ⊢
  obtain ⟨n, hn⟩ : ∃ n, n = ts.length := ⟨_, rfl⟩
  rw [← hn] at hcan hl hCl ⊢
  have hmk := mk_n4 n (by omega)
  obtain ⟨Z0, hZ0⟩ : ∃ Z, Z = ((List.replicate n 0).map fun k : Nat => Value.int .i64 (k : Int)).toArray := ⟨_, rfl⟩
  rw [← hZ0] at hmk
  have HC := hide (And.intro hfC (And.intro hCl (And.intro hS (And.intro hZ0 htog))))
  have HK := hide hcan
  clear hs hf hS hC hn hfC hCl hZ0 hcan htog
  go_enter Tryz.func34, Tryz.ntmps34
  go_upto_region 2 with (go_at_call 30; refine HK.out.mono ?_; rintro e W1 ⟨v1, rfl, ho1, hB1⟩; obtain ⟨A1, c1, rfl⟩ := ho1.form; have H1 := hide (And.intro hB1 (ho1.sl encT_len (Nat.le_refl _))); clear ho1 hB1)
  go_upto_region 3 with fail
  obtain ⟨gp, hgp⟩ : ∃ g, g = W1.heap.size := ⟨_, rfl⟩
  obtain ⟨pb, hpb⟩ : ∃ g, g = W1.heap.size + 1 := ⟨_, rfl⟩
  obtain ⟨X, hX⟩ : ∃ X, X = (W1.alloc (.cells Z0 3)).alloc (.cells #[.slice (some ⟨W1.heap.size, 0, none⟩) n n] 23) := ⟨_, rfl⟩
  rw [← hX, ← hpb]
  have hrX : RowN4 X gp (fillR n 0) := by
    rw [hX, hgp]
    have : fillR n 0 = List.replicate n 0 := by unfold fillR; simp
    rw [this]
    have h := (Blk.new W1 3 Z0).alloc (.cells #[.slice (some ⟨W1.heap.size, 0, none⟩) n n] 23)
    rw [HC.out.2.2.2.1] at h ⊢
    exact h
  have hbX : Blk X pb 23 #[.slice (some ⟨gp, 0, none⟩) n n] := by rw [hX, hpb, hgp]; exact Blk.new' _ _ _ _ (by simp)
  have hBX : Below W1.heap.size W1 X := by rw [hX]; exact ((Below.refl _ W1).alloc (Nat.le_refl _) _).alloc (by simp) _
  have hne : pb ≠ gp := by omega
  have HX := hide (And.intro hrX (And.intro hbX (And.intro hBX (And.intro hgp hpb))))
  clear hrX hbX hBX hX hgp hpb hmk
  have q0 : X.cell? ⟨pb, 0, none⟩ = some (.slice (some ⟨gp, 0, none⟩) n n) := HX.out.2.1.cell 0
  go_wp2_with fail
  clear q0
  go_loopw [33] (fun iv wr => ∃ k : Nat, k ≤ n ∧ iv = .int .i64 k ∧ RowN4 wr gp (fillR n k) ∧ Blk wr pb 23 #[.slice (some ⟨gp, 0, none⟩) n n] ∧ Below W1.heap.size W1 wr) (fun iv _ => n - (intOf iv).toNat)
  case atStart => exact ⟨0, by omega, rfl, HX.out.1, HX.out.2.1, HX.out.2.2.1⟩
  case round =>
    obtain ⟨k, hk, rfl, hr, hbp, hB⟩ := hrel
    obtain ⟨V, rfl⟩ : ∃ V, V = wr := ⟨_, rfl⟩
    by_cases hlt : k < n
    · have i1 : (k : Int) < (n : Int) := by omega
      have c1 : V.cell? ⟨gp, k, none⟩ = some (.int .i64 (0 : Nat)) := hr.cell (by unfold fillR; rw [List.getElem?_append_right (by simp), List.length_range, Nat.sub_self, List.getElem?_replicate, if_pos (by omega)])
      have c0 : V.cell? ⟨pb, 0, none⟩ = some (.slice (some ⟨gp, 0, none⟩) n n) := hbp.cell 0
      have f1 : V.frozen? ⟨gp, k, none⟩ = false := hr.frozen k
      have hlg := Blk.lt hr
      have hlp := hbp.lt
      have hset := hr.set k k
      rw [fillR_set hlt] at hset
      have HE := hide (And.intro hset (And.intro (hbp.far (p := ⟨gp, k, none⟩) hne (.int .i64 (k : Int))) (hB.setCell (p := ⟨gp, k, none⟩) (by rw [HX.out.2.2.2.1]; exact Nat.le_refl _) (.int .i64 (k : Int)))))
      clear hr hset hB hbp
      go_wp2
      go_roundw
      case rel => exact ⟨k + 1, by omega, by go_num, HE.out.1, HE.out.2.1, HE.out.2.2⟩
      case measure => (simp [intOf]; try omega)
    · obtain rfl : k = n := by omega
      rw [fillR_end] at hr
      have i1 : ¬ (k : Int) < (k : Int) := by omega
      have hpar : ParS V pb gp k (List.range k) := ⟨hr, hbp, List.length_range, fun j => by rw [numR_range]; exact Nat.le_refl _, hne⟩
      have hzV := hpar.box.lt
      have HV := hide (And.intro hpar hB)
      clear hr hbp hB hpar hlt hk
      go_upto_region 11 with fail
      obtain ⟨fb, hfb⟩ : ∃ g, g = V.heap.size := ⟨_, rfl⟩
      obtain ⟨mb, hmb⟩ : ∃ g, g = V.heap.size + 1 := ⟨_, rfl⟩
      obtain ⟨Y, hY⟩ : ∃ Y, Y = (V.alloc (.cells #[.func (.func 69) #[] #[.pointer (some ⟨pb, 0, none⟩)]] 93)).alloc (.map #[] 0) := ⟨_, rfl⟩
      rw [← hY, ← hmb, ← hfb]
      have hBY : Below V.heap.size V Y := by rw [hY]; exact ((Below.refl _ V).alloc (Nat.le_refl _) _).alloc (by simp) _
      have hPY : PrtS W1 Y gp pb fb mb k 0 (List.range k) (fun e => withK C 0 e) := by
        refine ⟨HV.out.2.trans (hBY.mono HV.out.2.size), HV.out.1.on hBY, ?_, ?_, by rw [HX.out.2.2.2.1]; exact Nat.le_refl _, by have := HX.out.2.2.2.2; have := HX.out.2.2.2.1; omega, by omega, by omega⟩
        · rw [hY, hfb]; exact (Blk.new _ _ _).alloc _
        · have h := WthM.made (V.alloc (.cells #[.func (.func 69) #[] #[.pointer (some ⟨pb, 0, none⟩)]] 93)) (mb + 1)
          rw [← hY] at h
          have hz : (V.alloc (.cells #[.func (.func 69) #[] #[.pointer (some ⟨pb, 0, none⟩)]] 93)).heap.size = mb := by rw [hmb]; simp
          rw [hz] at h
          exact h.same fun e => by simp [withK]
      have HY := hide hPY
      clear hY hBY hPY hfb hmb hzV hmm
      go_wp2_with fail
      go_loopw [46] (fun iv wr => ∃ (i cnt : Nat) (xs : List Nat), i ≤ k ∧ iv = .int .i64 i ∧ PrtS W1 wr gp pb fb mb k cnt xs (fun e => withK C i e) ∧ cnt ≤ 3 * i ∧ Tells (rootP (numR xs)) (jn1 C i)) (fun iv _ => k - (intOf iv).toNat)
      case atStart => exact ⟨0, 0, _, by omega, rfl, HY.out, by omega, by rw [root_range]; exact jn1_zero C⟩
      case round =>
        clear HY HV
        obtain ⟨i, cnt, xs, hi, rfl, hP, hcnt, hT⟩ := hrel
        obtain ⟨V2, rfl⟩ : ∃ V, V = wr := ⟨_, rfl⟩
        by_cases hik : i < k
        · have i2 : (i : Int) < (k : Int) := by omega
          obtain ⟨t, ht⟩ : ∃ t, C[i]? = some t := ⟨_, List.getElem?_eq_getElem (by rw [HC.out.2.1]; exact hik)⟩
          have hft := HC.out.1 t (List.mem_of_getElem? ht)
          have hsl : Sl encT 9 V2 V2.heap.size A1 C := (H1.out.2.below hP.bel).more hP.bel.size
          obtain ⟨tb, oo, hA, htb, g0, g1, g2, g3, g4, g5, g6, g7, g8⟩ := hsl.tri ht
          subst hA
          have HV2 := hide (And.intro hP (And.intro hcnt (And.intro hT (And.intro ht hft))))
          clear hP hcnt hT ht hft hsl
          go_upto_region 14 with fail
          obtain ⟨bt, hbt⟩ : ∃ g, g = V2.heap.size := ⟨_, rfl⟩
          obtain ⟨Y2, hY2⟩ : ∃ Y, Y = V2.alloc (.cells #[.int .i64 t.1.1, .int .i64 t.1.2.1, .int .i64 t.1.2.2, .int .i64 t.2.1.1, .int .i64 t.2.1.2.1, .int .i64 t.2.1.2.2, .int .i64 t.2.2.1, .int .i64 t.2.2.2.1, .int .i64 t.2.2.2.2] 58) := ⟨_, rfl⟩
          rw [← hY2, ← hbt]
          have hbY : Blk Y2 bt 58 (encT t).toArray := by rw [hY2, hbt]; exact Blk.new _ _ _
          have hPY : PrtS W1 Y2 gp pb fb mb k cnt xs (fun e => withJ C i t 0 e) := by
            rw [hY2]
            exact (HV2.out.1.on ((Below.refl _ V2).alloc (Nat.le_refl _) _)).same fun e => (withJ_zero C i t e).symm
          obtain ⟨a0, a1, a2, a3, a4, a5, a6, a7, a8⟩ := cells9z (w := Y2) (b := bt) (ty := 58) (t := t) hbY
          have hmbt : mb < bt := by rw [hbt]; exact HV2.out.1.lt
          have HY2 := hide (And.intro hbY hPY)
          clear hY2 hbY hPY g0 g1 g2 g3 g4 g5 g6 g7 g8 hbt htb
          go_wp2_with (go_at_call 71; refine (edges4_any t _).mono ?_; rintro e w4 ⟨rfl, hB4⟩; have H4 := hide (And.intro (HY2.out.1.below hB4 HY2.out.1.lt) (HY2.out.2.on hB4)); clear hB4)
          clear a0 a1 a2 a3 a4 a5 a6 a7 a8
          go_loopw [53] (fun jv wr => ∃ (j cnt' : Nat), j ≤ 3 ∧ jv = .int .i64 j ∧ PrtS W1 wr gp pb fb mb k cnt' xs (fun e => withJ C i t j e) ∧ cnt' ≤ cnt + j ∧ Blk wr bt 58 (encT t).toArray) (fun jv _ => 3 - (intOf jv).toNat)
          case atStart => exact ⟨0, cnt, by omega, rfl, H4.out.2, by omega, H4.out.1⟩
          case round =>
            clear HY2 H4
            obtain ⟨j, cnt', hj, rfl, hP, hcn, hbt⟩ := hrel
            obtain ⟨R, rfl⟩ : ∃ V, V = wr := ⟨_, rfl⟩
            by_cases hj3 : j < 3
            · have i3 : (j : Int) < 3 := by omega
              have hidx := fun W => idxE3 t j hj3 W
              have hfe := edK_fits HV2.out.2.2.2.2 j
              have hstep := withJ_step C i t (edK_get t hj3)
              obtain ⟨p, hp⟩ : ∃ p, p = edK t j := ⟨_, rfl⟩
              rw [← hp] at hfe hstep
              simp only [← hp] at hidx
              have HJ := hide (And.intro hP (And.intro hcn (And.intro hbt (And.intro hfe hstep))))
              clear hP hcn hbt hfe hstep hp
              go_upto_region 17 with fail
              obtain ⟨eb, heb⟩ : ∃ g, g = R.heap.size := ⟨_, rfl⟩
              obtain ⟨Z, hZ⟩ : ∃ Z, Z = R.alloc (.cells (cE p) 81) := ⟨_, rfl⟩
              rw [← hZ, ← heb]
              have hbe : Blk Z eb 81 (cE p) := by rw [hZ, heb]; exact Blk.new _ _ _
              have hBZ : Below R.heap.size R Z := by rw [hZ]; exact (Below.refl _ R).alloc (Nat.le_refl _) _
              obtain ⟨x0, x1, x2, x3, x4, x5⟩ := hbe.six4
              have hPZ := (HJ.out.1.on hBZ).on ((Below.refl Z.heap.size Z).alloc (Nat.le_refl _) (.cells #[.int .i64 i] 3))
              obtain ⟨st, w1, v, hrun, hg1, hz1, hown, hst⟩ := hPZ.entry (by have := HJ.out.2.1; have := HV2.out.2.1; unfold maxLen; omega) p HJ.out.2.2.2.1
              have hmbR := HJ.out.1.lt
              have hbtR := HJ.out.2.2.1.lt
              have hkb : Blk w1 Z.heap.size 3 #[.int .i64 i] := (Blk.new Z _ _).grown hg1 (fun e => by injection e with e; have := hBZ.size; omega)
              have hbt1 : Blk w1 bt 58 (encT t).toArray := ((HJ.out.2.2.1.below hBZ hbtR).alloc _).grown hg1 (fun e => by injection e with e; omega)
              have hlen := withJ_len C i t j p
              obtain ⟨Gp, hGp⟩ : ∃ G, G = withJ C i t j p := ⟨_, rfl⟩
              have hstep := HJ.out.2.2.2.2
              rw [← hGp] at hlen
              simp only [← hGp] at hown hst hstep
              obtain ⟨nG, hnG⟩ : ∃ n, n = Gp.length := ⟨_, rfl⟩
              rw [← hnG] at hown hst hlen
              have hzb : mb + 1 ≤ w1.heap.size := by rw [hz1]; have := hBZ.size; simp; omega
              have HQ := hide (And.intro hst (And.intro hkb (And.intro hbt1 (And.intro hstep (And.intro hg1 hzb)))))
              clear hst hkb hbt1 hstep hg1 hnG hGp hbe hBZ hPZ hz1 hzb hZ heb hidx hmbR hbtR
              simp only [goInt] at hrun
              go_wp2_with (at_builtin; refine wpList_append1 rfl _ _ _ rfl Tryz.underlying23 infoI4 rfl (by omega) encN4_len encN4_one rfl hown Z.heap.size 1 i rfl HQ.out.2.1 (by unfold maxLen; omega) (by omega) HQ.out.2.2.2.2.2 ?_; intro g cap w2 hown2 hg2 hB2 hat2 hgb2 hlt2; have hg2' : w1.grownBy w2 v.ownBlock := hg2; have hat2' : v.ownBlock = some g ∨ g = w1.heap.size := hat2; clear hg2 hat2; obtain ⟨w3, hrun3, hP3, hg3, hz3⟩ := HQ.out.1 w2 _ g i hg2' hown2 rfl hat2'; simp only [goInt] at hrun3)
              have hbt2 := HQ.out.2.2.1.grown hg2' (blk_own_ne4 HQ.out.2.2.1 hown (by decide))
              have hbt3 := hbt2.grown hg3 (fun e => by injection e with e; omega)
              have hP4 := hP3.same fun e => (HQ.out.2.2.2.1 e).symm
              have HE := hide (And.intro hbt3 hP4)
              clear hbt2 hbt3 hP3 hP4 hg2' hat2' hg3 hz3 hown hown2 hB2
              go_wp2
              go_roundw
              case rel => exact ⟨j + 1, cnt' + 1, by omega, by go_num, HE.out.2, by have := HJ.out.2.1; omega, HE.out.1⟩
              case measure => (simp [intOf]; try omega)
            · obtain rfl : j = 3 := by omega
              have i3 : ¬ ((3 : Nat) : Int) < 3 := by omega
              have hP2 := hP.same fun e => withJ_end HV2.out.2.2.2.1 e
              obtain ⟨a0, a1, a2, a3, a4, a5, a6, a7, a8⟩ := cells9z (w := R) (b := bt) (ty := 58) (t := t) hbt
              have hbtl := hbt.lt
              have HJ := hide (And.intro hP2 (show cnt' ≤ 3 * (i + 1) by have := HV2.out.2.1; omega))
              clear hP hP2 hcn hbt
              by_cases hi0 : i = 0
              · subst hi0
                have i4 : ¬ (0 : Int) < ((0 : Nat) : Int) := by omega
                have hT2 := jn1_skip HV2.out.2.2.1 (fun i h => by omega)
                have HE := hide hT2
                clear hT2
                go_wp2_with fail
                go_quiet (fail)
                go_wp2
                go_roundw
                case rel => exact ⟨0 + 1, cnt', xs, by omega, by go_num, HJ.out.1.on (below_drewN (Below.refl _ R) _), by have := HJ.out.2; omega, HE.out⟩
                case measure => (simp [intOf]; try omega)
              · obtain ⟨i1, rfl⟩ : ∃ a, i = a + 1 := ⟨i - 1, by omega⟩
                have i4 : (0 : Int) < ((i1 + 1 : Nat) : Int) := by omega
                have i5 : ((i1 + 1 : Nat) : Int) - 1 = (i1 : Int) := by omega
                have i6 : (i1 : Int) < (k : Int) := by omega
                obtain ⟨t', ht'⟩ : ∃ t, C[i1]? = some t := ⟨_, List.getElem?_eq_getElem (by rw [HC.out.2.1]; omega)⟩
                have hsl : Sl encT 9 R R.heap.size (some ⟨tb, oo, none⟩) C := (H1.out.2.below HJ.out.1.bel).more HJ.out.1.bel.size
                obtain ⟨tb2, oo2, hA2, htb2, u0, u1, u2, u3, u4, u5, u6, u7, u8⟩ := hsl.tri ht'
                injection hA2 with hA2
                injection hA2 with hA2 hA3
                subst hA2 hA3
                have heq := eqT t' t (HC.out.1 t' (List.mem_of_getElem? ht')) HV2.out.2.2.2.2
                by_cases htt : t' = t
                · rw [decide_eq_true htt] at heq
                  have hjn := jn1_join HV2.out.2.2.1 ht' (by rw [htt]; exact HV2.out.2.2.2.1)
                  have hjc := fun W (hW : Below R.heap.size R W) => join4_any fb pb gp k xs i1 (i1 + 1) (by omega) (by omega) W (HJ.out.1.on hW).par ((HJ.out.1.on hW).fun_.cell 0) (Nat.ne_of_gt (Nat.lt_trans HJ.out.1.o2 HJ.out.1.o3))
                  have HE := hide (And.intro hjn hjc)
                  clear hjn hjc htt ht' hsl
                  go_wp2_with fail
                  go_quiet (fail)
                  go_upto_region 20 with fail
                  obtain ⟨R2, hR2⟩ : ∃ W, W = R.drewN nq := ⟨_, rfl⟩
                  rw [← hR2]
                  have hB2 : Below R.heap.size R R2 := by rw [hR2]; exact below_drewN (Below.refl _ R) nq
                  have HR2 := hide hB2
                  clear hR2 hB2 a0 a1 a2 a3 a4 a5 a6 a7 a8 u0 u1 u2 u3 u4 u5 u6 u7 u8 heq
                  go_wp2_with (go_at_call 70; refine (HE.out.2 R2 HR2.out).mono ?_; rintro e w6 ⟨rfl, ys, hp6, hr6, hg6⟩)
                  have hT2 : Tells (rootP (numR ys)) (jn1 C (i1 + 1 + 1)) := by
                    have : rootP (numR ys) = joinR (rootP (numR xs)) i1 (i1 + 1) := funext hr6
                    rw [this]; exact HE.out.1
                  have hP6 := (HJ.out.1.on HR2.out).turn hp6 hg6
                  have HF := hide (And.intro hT2 hP6)
                  clear hT2 hP6 hp6 hr6 hg6
                  go_wp2
                  go_roundw
                  case rel => exact ⟨i1 + 1 + 1, cnt', ys, by omega, by go_num, HF.out.2, by have := HJ.out.2; omega, HF.out.1⟩
                  case measure => (simp [intOf]; try omega)
                · rw [decide_eq_false htt] at heq
                  have hT2 := jn1_skip HV2.out.2.2.1 (fun a h ⟨s, h1, h2⟩ => by
                    obtain rfl : a = i1 := by omega
                    rw [ht'] at h1; rw [HV2.out.2.2.2.1] at h2
                    exact htt ((Option.some.inj h1).trans (Option.some.inj h2).symm))
                  have HE := hide hT2
                  clear hT2 htt ht' hsl
                  go_wp2_with fail
                  go_quiet (fail)
                  go_wp2
                  go_roundw
                  case rel => exact ⟨i1 + 1 + 1, cnt', xs, by omega, by go_num, HJ.out.1.on (below_drewN (Below.refl _ R) _), by have := HJ.out.2; omega, HE.out⟩
                  case measure => (simp [intOf]; try omega)
        · obtain rfl : i = k := by omega
          have i2 : ¬ (i : Int) < (i : Int) := by omega
          obtain ⟨mo, m, hmo, hmv, hgp0⟩ := hP.wth
          have hGf : (fun e => withK C i e) = withE C := funext fun e => by unfold withE; rw [HC.out.2.1]
          rw [hGf] at hgp0
          obtain ⟨w5, c0, hrun, hrg, hg5, hz5, _⟩ := MapK.range_le kfE4 (t := 95) (e := 23) hmo Tryz.underlying95
          have hB5 := below_of_grown_none hg5 (Nat.le_refl _)
          have hmbl := hmo.lt
          obtain ⟨rb, hrb⟩ : ∃ g, g = V2.heap.size := ⟨_, rfl⟩
          rw [← hrb] at hrun hrg
          have hPR : PrtR W1 w5 gp pb fb mb rb i cnt xs mo m (withE C) (fun p => (mo p).isSome) c0 :=
            ⟨hP.bel.trans (hB5.mono hP.bel.size), hP.par.on hB5, hP.fun_.below hB5 hP.fun_.lt, hrg, hgp0.below hB5 (Nat.le_refl _), hP.o1, hP.o2, hP.o3, hP.o4, by rw [hrb]; exact hmbl, by rw [hz5, hrb]; exact Nat.lt_succ_self _⟩
          rw [← HC.out.2.1] at hT
          have hT2 := jn2_start hT ((0, 0, 0), (0, 0, 0))
          have hD0 : (fun _ : Ed => False) = fun d => mo d ≠ none ∧ (fun p => (mo p).isSome) d = false := funext fun d => propext ⟨False.elim, fun ⟨h1, h2⟩ => by
            cases h : mo d with
            | none => exact h1 h
            | some v => simp [h] at h2⟩
          rw [hD0] at hT2
          have hkey := fun d hd => with_some HC.out.1 hgp0 hmv (fun _ => rfl) d hd
          have hmmP := @run_makeMap Tryz.prog
          have HW := hide (And.intro hmv (And.intro hkey hmmP))
          have HP0 := hide (And.intro hPR hT2)
          clear hP hcnt hT hmo hmv hgp0 hGf hrg hg5 hz5 hB5 hmbl hrb hPR hT2 hD0 hkey hmmP hi hik
          go_wp2_with fail
          go_loopw [] (fun wr => ∃ (left : Ed → Bool) (c' : Nat) (ys : List Nat) (e0 : Ed), PrtR W1 wr gp pb fb mb rb i cnt ys mo m (withE C) left c' ∧ Tells (rootP (numR ys)) (jn2 C (fun d => mo d ≠ none ∧ left d = false) e0 0)) (fun wr => wr.rangeLeft mb rb)
          case atStart => exact ⟨_, c0, xs, _, HP0.out.1, HP0.out.2⟩
          case round =>
            clear HP0
            obtain ⟨left, c', ys, e0, hP, hT⟩ := hrel
            obtain ⟨U, rfl⟩ : ∃ V, V = wr := ⟨_, rfl⟩
            have hHL := hP.rng.left_eq
            rcases hP.rng.next kfE4 0 with ⟨_, hdone, hrunN⟩ | ⟨e, pv, w8, c'', hok, hleft, hm8, hrunN, hr8, hlt8, hg8, hz8, hent⟩
            · have hTn := tells_joins HC.out.2.2.2.2 (jn2_end hT fun d hd => ⟨(HW.out.2.1 d hd).1, hdone d (HW.out.2.1 d hd).2⟩)
              have hroot := RootS.of_tells HC.out.2.2.1 hTn (root_le hP.par.desc) (root_root hP.par.desc)
              have hmmP := HW.out.2.2
              obtain ⟨Rf, hRf⟩ : ∃ R, R = rootP (numR ys) := ⟨_, rfl⟩
              rw [← hRf] at hroot
              have hz6 := hP.o6
              have hgpU := hP.par.lt
              have HU := hide (And.intro hP (And.intro hroot hRf))
              clear hP hT hHL hdone hTn hroot hRf hrun
              go_upto_region 36 with fail
              obtain ⟨ab, hab⟩ : ∃ g, g = U.heap.size := ⟨_, rfl⟩
              obtain ⟨Y, hY⟩ : ∃ Y, Y = U.alloc (.map #[] 0) := ⟨_, rfl⟩
              rw [← hY, ← hab]
              have hBY : Below U.heap.size U Y := by rw [hY]; exact (Below.refl _ U).alloc (Nat.le_refl _) _
              have hMY : MapK Tryz.prog 3 (fun k : Nat => Value.int .i64 (k : Int)) (fun k => k ≤ 9223372036854775807) Y ab 0 (idxV (headsI S 0)) := by
                rw [hY, hab]
                exact (MapK.made Tryz.prog 3 _ _ U).same fun p => by simp [headsI, idxV, posN]
              have hgab : gp < ab := by rw [hab]; exact hgpU
              have hfab : pb < ab ∧ fb < ab := ⟨by rw [hab]; exact HU.out.1.par.box.lt, by rw [hab]; exact HU.out.1.fun_.lt⟩
              have HY := hide (And.intro (HU.out.1.par.on hBY) (And.intro (HU.out.1.fun_.below hBY HU.out.1.fun_.lt) (And.intro hMY (HU.out.1.bel.trans (hBY.mono HU.out.1.bel.size)))))
              have hW1ab : W1.heap.size ≤ ab := by rw [hab]; exact HU.out.1.bel.size
              clear hY hab hBY hMY hrunN hgpU hz6 hmmP
              go_wp2_with fail
              go_loopw [19, 120] (fun ov jv wr => ∃ (j cn : Nat) (zs : List Nat), j ≤ i ∧ jv = .int .i64 j ∧ ParS wr pb gp i zs ∧ (∀ a, rootP (numR zs) a = Rf a) ∧ Blk wr fb 93 #[.func (.func 69) #[] #[.pointer (some ⟨pb, 0, none⟩)]] ∧ MapK Tryz.prog 3 (fun k : Nat => Value.int .i64 (k : Int)) (fun k => k ≤ 9223372036854775807) wr ab cn (idxV (headsI S j)) ∧ cn ≤ j ∧ PcsD encT 9 58 28 wr (ab + 1) ov (partsT C S j) ∧ Below W1.heap.size W1 wr) (fun _ jv _ => i - (intOf jv).toNat)
              case atStart => exact ⟨0, 0, ys, by omega, rfl, HY.out.1, fun a => by rw [HU.out.2.2], HY.out.2.1, HY.out.2.2.1, by omega, by rw [show partsT C S 0 = [] by simp [partsT, partsI, headsI]]; exact PcsD.nil, HY.out.2.2.2⟩
              case round =>
                clear HY
                obtain ⟨j, cn, zs, hj, rfl, hp, hro, hfn, hM, hcn, hpc, hB⟩ := hrel
                obtain ⟨V, rfl⟩ : ∃ V, V = wr := ⟨_, rfl⟩
                obtain ⟨oA, oc, rfl⟩ := hpc.form
                obtain ⟨np, hnp⟩ : ∃ n, n = (partsT C S j).length := ⟨_, rfl⟩
                rw [← hnp] at hpc ⊢
                by_cases hji : j < i
                · have i3 : (j : Int) < (i : Int) := by omega
                  obtain ⟨t, ht⟩ : ∃ t, C[j]? = some t := ⟨_, List.getElem?_eq_getElem (by rw [HC.out.2.1]; exact hji)⟩
                  have hsl : Sl encT 9 V V.heap.size A1 C := (H1.out.2.below hB).more hB.size
                  obtain ⟨tb, oo, hA, htb, g0, g1, g2, g3, g4, g5, g6, g7, g8⟩ := hsl.tri ht
                  subst hA
                  have HV := hide (And.intro hp (And.intro hro (And.intro hfn (And.intro hM (And.intro hcn (And.intro hpc (And.intro hB (And.intro ht hnp))))))))
                  clear hp hro hfn hM hcn hpc hB ht hsl hnp
                  go_upto_region 39 with fail
                  obtain ⟨bt, hbt⟩ : ∃ g, g = V.heap.size := ⟨_, rfl⟩
                  obtain ⟨Y2, hY2⟩ : ∃ Y, Y = V.alloc (.cells #[.int .i64 t.1.1, .int .i64 t.1.2.1, .int .i64 t.1.2.2, .int .i64 t.2.1.1, .int .i64 t.2.1.2.1, .int .i64 t.2.1.2.2, .int .i64 t.2.2.1, .int .i64 t.2.2.2.1, .int .i64 t.2.2.2.2] 58) := ⟨_, rfl⟩
                  rw [← hY2, ← hbt]
                  have hbY : Blk Y2 bt 58 (encT t).toArray := by rw [hY2, hbt]; exact Blk.new _ _ _
                  have hB2 : Below V.heap.size V Y2 := by rw [hY2]; exact (Below.refl _ V).alloc (Nat.le_refl _) _
                  have hfY := HV.out.2.2.1.below hB2 HV.out.2.2.1.lt
                  have hf0 : Y2.cell? ⟨fb, 0, none⟩ = some (.func (.func 69) #[] #[.pointer (some ⟨pb, 0, none⟩)]) := hfY.cell 0
                  have hcal := find4_any pb gp i zs j hji Y2 (HV.out.1.on hB2)
                  rw [HV.out.2.1] at hcal
                  have habt : ab < bt := by rw [hbt]; exact HV.out.2.2.2.1.lt
                  have hbtl := hbY.lt
                  have HY2 := hide (And.intro hbY (And.intro hB2 (And.intro hfY hcal)))
                  clear hY2 hbY hB2 hfY hcal g0 g1 g2 g3 g4 g5 g6 g7 g8 htb
                  have Hbt := hide hbt
                  clear hbt
                  obtain ⟨r, hr⟩ : ∃ r, r = Rf j := ⟨_, rfl⟩
                  rw [← hr] at HY2
                  have Hr := hide hr
                  clear hr
                  go_upto_region 40 with (go_at_call 69; refine HY2.out.2.2.2.mono ?_; rintro e w6 ⟨rfl, zs6, hp6, hr6, hg6⟩)
                  have hfn6 := HY2.out.2.2.1.grown hg6 (fun e => by injection e with e; have q2 := HU.out.1.o2; have q3 := HU.out.1.o3; omega)
                  have hM6 := (HV.out.2.2.2.1.below HY2.out.2.1 HV.out.2.2.2.1.lt).kept hg6 (fun e => by injection e with e; omega)
                  have hpc6 := ((HV.out.2.2.2.2.2.1.aw (g := bt) (by rw [Hbt.out]; exact Nat.le_refl _)).below HY2.out.2.1 (Nat.le_refl _)).step hg6 (fun r hr => by injection hr with hr; omega)
                  have hB6 : Below W1.heap.size W1 w6 := (HV.out.2.2.2.2.2.2.1.trans (HY2.out.2.1.mono HV.out.2.2.2.2.2.2.1.size)).grown hg6 (Nat.le_trans HV.out.2.2.2.2.2.2.1.size HY2.out.2.1.size) (fun r hr => by injection hr with hr; have q1 := HU.out.1.o1; omega)
                  have hbt6 := HY2.out.1.grown hg6 (fun e => by injection e with e; omega)
                  have hro6 : ∀ a, rootP (numR zs6) a = Rf a := fun a => (hr6 a).trans (HV.out.2.1 a)
                  have hrj : r ≤ j := by rw [Hr.out, ← HV.out.2.1 j]; exact root_le HV.out.1.desc j
                  have hlk := hM6.lookup_ok kfI4 (t := 99) (e := 3) Tryz.underlying99 (z := .int .i64 0) rfl r (by omega)
                  have H6 := hide (And.intro hp6 (And.intro hro6 (And.intro hfn6 (And.intro hM6 (And.intro hpc6 (And.intro hB6 hbt6))))))
                  clear hp6 hro6 hfn6 hM6 hpc6 hB6 hbt6 hr6 hg6 hf0
                  obtain ⟨lv, hlv⟩ : ∃ v, v = (idxV (headsI S j) r).getD (.int .i64 0) := ⟨_, rfl⟩
                  obtain ⟨lb, hlb⟩ : ∃ b, b = (idxV (headsI S j) r).isSome := ⟨_, rfl⟩
                  rw [← hlv, ← hlb] at hlk
                  have HL := hide (And.intro hlv hlb)
                  clear hlv hlb
                  go_upto_if 135 with fail
                  clear hlk
                  go_cut [19, 24] (fun ov nv wx => ∃ (q : Nat) (ps : List (List Tri)) (p : List Tri) (cn2 : Nat), nv = .int .i64 (q : Int) ∧ ps[q]? = some p ∧ ps.set q (p ++ [t]) = partsT C S (j + 1) ∧ PcsW encT 9 58 28 wx (ab + 1) ov ps bt ∧ MapK Tryz.prog 3 (fun k : Nat => Value.int .i64 (k : Int)) (fun k => k ≤ 9223372036854775807) wx ab cn2 (idxV (headsI S (j + 1))) ∧ cn2 ≤ j + 1 ∧ ParS wx pb gp i zs6 ∧ Blk wx fb 93 #[.func (.func 69) #[] #[.pointer (some ⟨pb, 0, none⟩)]] ∧ Blk wx bt 58 (encT t).toArray ∧ Below W1.heap.size W1 wx)
                  case first =>
                    cases lb with
                    | true =>
                      have hq : ∃ q, posN (headsI S j) (Rf j) = some q ∧ headsI S (j + 1) = headsI S j ∧ S (Rf j) j = true ∧ lv = .int .i64 (q : Int) := by
                        rcases heads_next HU.out.2.1 j with ⟨h1, h2, _, _⟩ | ⟨_, q, h2, h3, h4⟩
                        · have := HL.out.2
                          rw [Hr.out, h1] at this
                          unfold idxV at this
                          rw [posN_none h2] at this
                          cases this
                        · refine ⟨q, h2, h3, h4, ?_⟩
                          rw [HL.out.1, Hr.out]
                          unfold idxV
                          rw [h2]; rfl
                      obtain ⟨q, hq1, hq2, hq3, rfl⟩ := hq
                      obtain ⟨p, hp1, hp2⟩ := partsT_old HC.out.2.2.1.eqB HV.out.2.2.2.2.2.2.2.1 (posN_some hq1) hq3
                      have HE := hide (And.intro hp1 (And.intro hp2 hq2))
                      clear hq1 hq2 hq3 hp1 hp2
                      go_wp2
                      go_meet
                      case rel => exact ⟨q, _, p, cn, rfl, HE.out.1, HE.out.2.1.symm, H6.out.2.2.2.2.1, by rw [HE.out.2.2]; exact H6.out.2.2.2.1, by have := HV.out.2.2.2.2.1; omega, H6.out.1, H6.out.2.2.1, H6.out.2.2.2.2.2.2, H6.out.2.2.2.2.2.1⟩
                    | false =>
                      have hq : Rf j = j ∧ j ∉ headsI S j ∧ headsI S (j + 1) = headsI S j ++ [j] ∧ headI S j = true := by
                        rcases heads_next HU.out.2.1 j with h | ⟨_, q, h2, _, _⟩
                        · exact h
                        · have := HL.out.2
                          rw [Hr.out] at this
                          unfold idxV at this
                          rw [h2] at this
                          cases this
                      obtain ⟨hq1, hq2, hq3, hq4⟩ := hq
                      have hrj2 : r = j := Hr.out.trans hq1
                      subst hrj2
                      have hpl : (partsT C S r).length = (headsI S r).length := partsT_len C S r
                      have hnpl : np ≤ r := by
                        rw [HV.out.2.2.2.2.2.2.2.2, hpl]
                        unfold headsI
                        exact Nat.le_trans (List.length_filter_le _ _) (by rw [List.length_range]; exact Nat.le_refl _)
                      obtain ⟨w7, hrun7, hM7, hg7, hz7⟩ := H6.out.2.2.2.1.update kfI4 (t := 99) (e := 3) Tryz.underlying99 (by have := HV.out.2.2.2.2.1; unfold maxLen; omega) r (by omega) (.int .i64 (np : Int))
                      have hM8 := hM7.same (m' := idxV (headsI S (r + 1))) fun x => by
                        rw [hq3]
                        unfold idxV
                        rw [posN_snoc hq2]
                        by_cases h : x = r
                        · rw [if_pos h, if_pos h, HV.out.2.2.2.2.2.2.2.2, hpl]; rfl
                        · rw [if_neg h, if_neg h]
                      have hpc7 := H6.out.2.2.2.2.1.step hg7 (fun x e => by injection e with e; omega)
                      obtain ⟨ss, hso, hel, hap, haw⟩ := hpc7
                      have hp7 := H6.out.1.kept hg7 (fun e => by injection e with e; omega) (fun e => by injection e with e; have := hfab.1; omega)
                      have hf7 := H6.out.2.2.1.grown hg7 (fun e => by injection e with e; have := hfab.2; omega)
                      have hb7 := H6.out.2.2.2.2.2.2.grown hg7 (fun e => by injection e with e; omega)
                      have hB7 := H6.out.2.2.2.2.2.1.grown hg7 H6.out.2.2.2.2.2.1.size (fun x e => by injection e with e; omega)
                      rw [← HV.out.2.2.2.2.2.2.2.2] at hso
                      have hz6 := H6.out.2.2.2.1.lt
                      have hab7 : ab + 1 ≤ w7.heap.size := by rw [hz7]; exact hz6
                      have hnew := partsT_new HC.out.2.2.1.eqB HV.out.2.2.2.2.2.2.2.1 hq4
                      have HE := hide (And.intro hso (And.intro hel (And.intro hap (And.intro hM8 (And.intro hp7 (And.intro hf7 (And.intro hb7 (And.intro hB7 (And.intro hnew (And.intro hz7 haw))))))))))
                      clear hq1 hq2 hq3 hq4 hpl hM7 hg7 hM8 hso hel hap haw hp7 hf7 hb7 hB7 hnew hz7 hz6
                      go_wp2_with (at_builtin; refine wpList_append1 rfl _ _ _ rfl Tryz.underlying43 infoT4s rfl (by omega) encS_len encS_one rfl (HE.out.1.alloc _) w7.heap.size 1 (none, 0, 0) rfl (Blk.new _ _ _) (by unfold maxLen; omega) (by omega) (by simp; omega) ?_; intro g9 cap9 w9 hown9 hg9 hB9 hat9 hgb9 hlt9)
                      have hg9' : (w7.alloc (.cells #[.slice none 0 0] 28)).grownBy w9 (Value.slice oA np oc).ownBlock := hg9
                      have hrow := own_rowT (HE.out.1.alloc (.cells #[.slice none 0 0] 28)) (t := 58) (by decide)
                      have hel9 := (HE.out.2.1.alloc (.cells #[.slice none 0 0] 28)).step hg9' hrow
                      have hbl : ∀ x, (Value.slice oA np oc).ownBlock = some x → ab + 1 ≤ x := fun x hx => (HE.out.1.blk x hx).1
                      have hne9 : ∀ y, y < ab + 1 → some y ≠ (Value.slice oA np oc).ownBlock := fun y hy e => by have := hbl y e.symm; omega
                      have hM9 := (HE.out.2.2.2.1.kept (World.grownBy_alloc w7 (.cells #[.slice none 0 0] 28) none) (by simp)).kept hg9' (hne9 ab (by omega))
                      have hp9 := (HE.out.2.2.2.2.1.kept (World.grownBy_alloc w7 (.cells #[.slice none 0 0] 28) none) (by simp) (by simp)).kept hg9' (hne9 gp (by omega)) (hne9 pb (by have := hfab.1; omega))
                      have hf9 := (HE.out.2.2.2.2.2.1.alloc (.cells #[.slice none 0 0] 28)).grown hg9' (hne9 fb (by have := hfab.2; omega))
                      have hb9 := (HE.out.2.2.2.2.2.2.1.alloc (.cells #[.slice none 0 0] 28)).grown hg9' (blk_own_ne4 (HE.out.2.2.2.2.2.2.1.alloc (.cells #[.slice none 0 0] 28)) (HE.out.1.alloc (.cells #[.slice none 0 0] 28)) (by decide))
                      have hB99 := (HE.out.2.2.2.2.2.2.2.1.alloc HE.out.2.2.2.2.2.2.2.1.size (.cells #[.slice none 0 0] 28)).grown hg9' (HE.out.2.2.2.2.2.2.2.1.alloc HE.out.2.2.2.2.2.2.2.1.size _).size (fun x hx => by have := hbl x hx; omega)
                      have hps9 := PcsW.more hel9 HE.out.2.2.1 HE.out.2.2.2.2.2.2.2.2.2.2 (by rw [← HV.out.2.2.2.2.2.2.2.2]; exact hown9)
                      have hnpe := HV.out.2.2.2.2.2.2.2.2
                      have hset : (partsT C S r ++ [[]]).set np ([] ++ [t]) = partsT C S (r + 1) := by
                        rw [hnpe, List.set_append_right _ _ (Nat.le_refl _), Nat.sub_self, HE.out.2.2.2.2.2.2.2.2.1]; rfl
                      have hget : (partsT C S r ++ [[]])[np]? = some [] := by rw [hnpe, List.getElem?_append_right (Nat.le_refl _), Nat.sub_self]; rfl
                      have HF := hide (And.intro hget (And.intro hset (And.intro hps9 (And.intro hM9 (And.intro hp9 (And.intro hf9 (And.intro hb9 hB99)))))))
                      clear hrow hel9 hbl hne9 hM9 hp9 hf9 hb9 hB99 hps9 hset hget hg9' hnpe
                      go_wp2
                      go_meet
                      case rel => exact ⟨np, _, _, cn + 1, rfl, HF.out.1, HF.out.2.1, HF.out.2.2.1, HF.out.2.2.2.1, by have := HV.out.2.2.2.2.1; omega, HF.out.2.2.2.2.1, HF.out.2.2.2.2.2.1, HF.out.2.2.2.2.2.2.1, HF.out.2.2.2.2.2.2.2⟩
                  case rest =>
                  obtain ⟨q, ps, p, cn2, rfl, hps, hset, hpc, hM, hcn, hp, hfn, hbt, hB⟩ := hcut
                  obtain ⟨R, rfl⟩ : ∃ V, V = wc := ⟨_, rfl⟩
                  obtain ⟨ss, hso, hel, hap, haw⟩ := hpc
                  obtain ⟨A5, c5, hs5, ho5⟩ := hel.at hps
                  have hne : ss ≠ [] := fun e => by rw [e] at hs5; simp at hs5
                  obtain ⟨go, cap0, rfl, hgo1, hgo2⟩ := hso.at hne
                  obtain ⟨b9, o9, hA9, _, hc9⟩ := (hso.sl encS_len (Nat.le_refl _)).at hs5
                  cases hA9
                  have d0 : R.cell? ⟨go, q, none⟩ = some (.slice A5 p.length c5) := by
                    have := hc9 0 _ rfl
                    simpa using this
                  have hql : q < ps.length := (List.getElem?_eq_some_iff.1 hps).1
                  have hpsl : ps.length ≤ j + 1 := by
                    have h := congrArg List.length hset
                    rw [List.length_set, partsT_len] at h
                    rw [h]
                    unfold headsI
                    exact Nat.le_trans (List.length_filter_le _ _) (by rw [List.length_range]; exact Nat.le_refl _)
                  have hpl : p.length ≤ j := by
                    have h1 := partsT_perm (c := C) HC.out.2.2.1.eqB (j + 1) (by rw [HC.out.2.1]; omega)
                    have h2 := h1.length_eq
                    rw [← hset] at h2
                    have h3 : (p ++ [t]).length ≤ ((ps.set q (p ++ [t])).flatten).length := len_flat_mem (List.mem_of_getElem? (by rw [List.getElem?_set, if_pos rfl, if_pos hql]))
                    rw [h2, List.length_take, List.length_append] at h3
                    simp only [List.length_cons, List.length_nil] at h3
                    omega
                  obtain ⟨npl, hnpl⟩ : ∃ n, n = p.length := ⟨_, rfl⟩
                  obtain ⟨nps, hnps⟩ : ∃ n, n = ps.length := ⟨_, rfl⟩
                  rw [← hnps] at hso hql hpsl ⊢
                  rw [← hnpl] at ho5 hs5 d0 hpl
                  have k1 : (q : Int) < (nps : Int) := by omega
                  obtain ⟨a0, a1, a2, a3, a4, a5, a6, a7, a8⟩ := cells9z (w := R) (b := bt) (ty := 58) (t := t) hbt
                  have hbtl2 := hbt.lt
                  have HBT := hide (And.intro hbt (show (Value.slice A5 npl c5).ownBlock ≠ some bt from haw _ (List.mem_of_getElem? hs5)))
                  clear haw
                  have hBR := hB.size
                  have HF := hide (And.intro hset (And.intro hs5 (And.intro ho5 (And.intro hso (And.intro hel (And.intro hap (And.intro hM (And.intro hcn (And.intro hp (And.intro hfn (And.intro hB (And.intro hnps hnpl))))))))))))
                  have hown0 := ho5.alloc (.cells #[.int .i64 t.1.1, .int .i64 t.1.2.1, .int .i64 t.1.2.2, .int .i64 t.2.1.1, .int .i64 t.2.1.2.1, .int .i64 t.2.1.2.2, .int .i64 t.2.2.1, .int .i64 t.2.2.2.1, .int .i64 t.2.2.2.2] 58)
                  have hso0 := hso.alloc (.cells #[.int .i64 t.1.1, .int .i64 t.1.2.1, .int .i64 t.1.2.2, .int .i64 t.2.1.1, .int .i64 t.2.1.2.1, .int .i64 t.2.1.2.2, .int .i64 t.2.2.1, .int .i64 t.2.2.2.1, .int .i64 t.2.2.2.2] 58)
                  clear hset hs5 ho5 hso hel hap hM hcn hp hfn hB hnps hnpl hps hne hc9 hbt
                  go_upto_region 45 with fail
                  have hSR : ∀ W, Below R.heap.size R W → W.cell? ⟨go, q, none⟩ = some (.slice A5 npl c5) ∧ W.cell? ⟨bt, 0, none⟩ = some (.int .i64 t.1.1) ∧ W.cell? ⟨bt, 1, none⟩ = some (.int .i64 t.1.2.1) ∧ W.cell? ⟨bt, 2, none⟩ = some (.int .i64 t.1.2.2) ∧ W.cell? ⟨bt, 3, none⟩ = some (.int .i64 t.2.1.1) ∧ W.cell? ⟨bt, 4, none⟩ = some (.int .i64 t.2.1.2.1) ∧ W.cell? ⟨bt, 5, none⟩ = some (.int .i64 t.2.1.2.2) ∧ W.cell? ⟨bt, 6, none⟩ = some (.int .i64 t.2.2.1) ∧ W.cell? ⟨bt, 7, none⟩ = some (.int .i64 t.2.2.2.1) ∧ W.cell? ⟨bt, 8, none⟩ = some (.int .i64 t.2.2.2.2) := fun W hW => ⟨(hW.cell (p := ⟨go, q, none⟩) hgo2).trans d0, (hW.cell (p := ⟨bt, 0, none⟩) hbtl2).trans a0, (hW.cell (p := ⟨bt, 1, none⟩) hbtl2).trans a1, (hW.cell (p := ⟨bt, 2, none⟩) hbtl2).trans a2, (hW.cell (p := ⟨bt, 3, none⟩) hbtl2).trans a3, (hW.cell (p := ⟨bt, 4, none⟩) hbtl2).trans a4, (hW.cell (p := ⟨bt, 5, none⟩) hbtl2).trans a5, (hW.cell (p := ⟨bt, 6, none⟩) hbtl2).trans a6, (hW.cell (p := ⟨bt, 7, none⟩) hbtl2).trans a7, (hW.cell (p := ⟨bt, 8, none⟩) hbtl2).trans a8⟩
                  have HSR := hide hSR
                  have HQ := hide (hSR R.drew (Below.refl _ R).drew)
                  clear hSR
                  refine wp_region_mix (fun W => W.cell? ⟨go, q, none⟩ = some (.slice A5 npl c5) ∧ W.cell? ⟨bt, 0, none⟩ = some (.int .i64 t.1.1) ∧ W.cell? ⟨bt, 1, none⟩ = some (.int .i64 t.1.2.1) ∧ W.cell? ⟨bt, 2, none⟩ = some (.int .i64 t.1.2.2) ∧ W.cell? ⟨bt, 3, none⟩ = some (.int .i64 t.2.1.1) ∧ W.cell? ⟨bt, 4, none⟩ = some (.int .i64 t.2.1.2.1) ∧ W.cell? ⟨bt, 5, none⟩ = some (.int .i64 t.2.1.2.2) ∧ W.cell? ⟨bt, 6, none⟩ = some (.int .i64 t.2.2.1) ∧ W.cell? ⟨bt, 7, none⟩ = some (.int .i64 t.2.2.2.1) ∧ W.cell? ⟨bt, 8, none⟩ = some (.int .i64 t.2.2.2.2)) [0, 1, 2, 3, 4, 5, 6] [0, 1, 2, 3, 4, 5, 6, 7, 8, 9, 10] mixed_ok (by kernel_rfl) ?_
                  refine wpMix_q (v := .slice (some ⟨go, 0, none⟩) nps cap0) rfl rfl (fun _ _ _ h => h) HQ.out ⟨rfl, fun _ h' => by simp [go_sem]⟩ ?_
                  refine wpMix_q (v := .int .i64 q) rfl rfl (fun _ _ _ h => h) HQ.out ⟨rfl, fun _ h' => by simp [go_sem]⟩ ?_
                  refine wpMix_q (v := .slice (some ⟨go, 0, none⟩) nps cap0) rfl rfl (fun _ _ _ h => h) HQ.out ⟨rfl, fun _ h' => by simp [go_sem]⟩ ?_
                  refine wpMix_q (v := .int .i64 q) rfl rfl (fun _ _ _ h => h) HQ.out ⟨rfl, fun _ h' => by simp [go_sem]⟩ ?_
                  refine wpMix_q (v := .pointer (some ⟨go, q, none⟩)) rfl rfl (fun _ _ _ h => h) HQ.out ⟨rfl, fun _ h' => by simp [go_sem, k1]⟩ ?_
                  refine wpMix_q (v := .slice A5 npl c5) rfl rfl (fun _ _ _ h => h) HQ.out ⟨rfl, fun _ h' => by simp [go_sem, h'.1]⟩ ?_
                  simp only [List.getElem_toArray, List.getElem_cons_succ, List.getElem_cons_zero, Act.put, List.setIfInBounds_toArray, List.set_cons_succ, List.set_cons_zero]
                  refine wpMix_q (v := vT t) rfl rfl (fun _ _ _ h => h) HQ.out ⟨rfl, fun _ h' => by simp [go_sem, h'.2.1, h'.2.2.1, h'.2.2.2.1, h'.2.2.2.2.1, h'.2.2.2.2.2.1, h'.2.2.2.2.2.2.1, h'.2.2.2.2.2.2.2.1, h'.2.2.2.2.2.2.2.2.1, h'.2.2.2.2.2.2.2.2.2]⟩ ?_
                  simp only [List.getElem_toArray, List.getElem_cons_succ, List.getElem_cons_zero, Act.put, List.setIfInBounds_toArray, List.set_cons_succ, List.set_cons_zero]
                  refine wpMix_n rfl rfl ?_
                  go_wp2_with fail
                  refine ⟨fun _ => HSR.out _ ((Below.refl _ R).alloc (Nat.le_refl _) _).drew, ?_⟩
                  obtain ⟨RA, hRA⟩ : ∃ W, W = (R.alloc (.cells #[.int .i64 t.1.1, .int .i64 t.1.2.1, .int .i64 t.1.2.2, .int .i64 t.2.1.1, .int .i64 t.2.1.2.1, .int .i64 t.2.1.2.2, .int .i64 t.2.2.1, .int .i64 t.2.2.2.1, .int .i64 t.2.2.2.2] 58)).drew := ⟨_, rfl⟩
                  have hownA : Own encT 9 58 RA (ab + 1) (.slice A5 npl c5) npl p := by rw [hRA]; exact hown0.drew
                  have hsoA : Own encS 1 28 RA (ab + 1) (.slice (some ⟨go, 0, none⟩) nps cap0) nps ss := by rw [hRA]; exact hso0.drew
                  have hblA : Blk RA R.heap.size 58 (encT t).toArray := by rw [hRA]; exact (Blk.new _ _ _).drew
                  have hBA : Below R.heap.size R RA := by rw [hRA]; exact ((Below.refl _ R).alloc (Nat.le_refl _) _).drew
                  have habA : ab + 1 ≤ RA.heap.size := by have := HF.out.2.2.2.2.2.2.1.lt; have := hBA.size; omega
                  have helA : Elems encT 9 58 RA (ab + 1) ss ps := HF.out.2.2.2.2.1.imp fun s _ p' ho => ho.below hBA (Nat.le_refl _)
                  have HA := hide (And.intro hownA (And.intro hsoA (And.intro hblA (And.intro hBA (And.intro habA helA)))))
                  clear hown0 hso0 hownA hsoA hblA hBA helA
                  refine wpMix_n rfl rfl ?_
                  rw [← hRA]
                  refine wpList_append1 rfl _ _ _ rfl Tryz.underlying28 infoT rfl (by omega) encT_len encT_one rfl HA.out.1 R.heap.size 1 t rfl HA.out.2.2.1 (by unfold maxLen; omega) (by omega) habA ?_
                  intro g5 cap5 w5 hown5 hg5 hB5 hat5 hgb5 hlt5
                  have hg5' : RA.grownBy w5 (Value.slice A5 npl c5).ownBlock := hg5
                  have hat5' : (Value.slice A5 npl c5).ownBlock = some g5 ∨ g5 = RA.heap.size := hat5
                  clear hg5 hat5
                  have hso5 := HA.out.2.1.step hg5' (own_rowT HA.out.1 (by decide))
                  obtain ⟨b9, o9, hA9, _, hc9⟩ := (hso5.sl encS_len (Nat.le_refl _)).at HF.out.2.1
                  cases hA9
                  have c9 := hc9 0 _ rfl
                  simp only [Nat.mul_one, Nat.zero_add, Nat.add_zero] at c9
                  obtain ⟨cs9, hcs9⟩ := hso5.cells go rfl
                  have f9 := Blk.frozen hcs9 q
                  have hgl9 := Blk.lt hcs9
                  clear hc9
                  have hbt5 := (HBT.out.1.below HA.out.2.2.2.1 HBT.out.1.lt).grown hg5' (fun e => HBT.out.2 e.symm)
                  obtain ⟨e0, e1, e2, e3, e4, e5, e6, e7, e8⟩ := cells9z (w := w5) (b := bt) (ty := 58) (t := t) hbt5
                  have HS5 := hide (And.intro c9 (And.intro e0 (And.intro e1 (And.intro e2 (And.intro e3 (And.intro e4 (And.intro e5 (And.intro e6 (And.intro e7 e8)))))))))
                  clear hbt5 e0 e1 e2 e3 e4 e5 e6 e7 e8
                  go_wp2_with fail
                  refine ⟨fun _ => HS5.out, ?_⟩
                  refine wpMix_n rfl rfl ?_
                  go_wp2_with fail
                  refine ⟨fun _ => HS5.out, ?_⟩
                  refine wpMix_n rfl rfl ?_
                  go_wp2_with fail
                  refine ⟨fun h => absurd (h.symm.trans (show _ = false by kernel_rfl)) (by simp), wpMix_nil ?_⟩
                  go_wp2_with fail
                  have hset := grown_set4 w5 go q (.slice (some ⟨g5, 0, none⟩) (npl + 1) cap5)
                  have hbl : ∀ x, (Value.slice A5 npl c5).ownBlock = some x → ab + 1 ≤ x := fun x hx => (HA.out.1.blk x hx).1
                  have hn5 : ∀ y, y < ab + 1 → some y ≠ (Value.slice A5 npl c5).ownBlock := fun y hy e => by have := hbl y e.symm; omega
                  have hns : ∀ y, y < ab + 1 → some y ≠ some go := fun y hy e => by injection e with e; omega
                  have hgf := hfab.1
                  have hff := hfab.2
                  have hBA := HA.out.2.2.2.1
                  have hel5 := Elems.grow_at (t := (some ⟨g5, 0, none⟩, npl + 1, cap5)) (q := p ++ [t]) hg5' HA.out.2.2.2.2.2 HF.out.2.2.2.2.2.1 HF.out.2.1 rfl (by simp [HF.out.2.2.2.2.2.2.2.2.2.2.2.2]) (by rw [List.length_append, ← HF.out.2.2.2.2.2.2.2.2.2.2.2.2]; exact hown5)
                  have hrow5 : ∀ r, some go = some r → r < ab + 1 ∨ ∀ cs, w5.heap[r]? ≠ some (.cells cs 58 (0, 0)) := fun r e => .inr fun cs' hc' => by cases e; rw [hcs9] at hc'; exact absurd hc' (by intro h; injection h with h; injection h with _ h; exact absurd h (by decide))
                  have hss := hso5.setS (s := (some ⟨g5, 0, none⟩, npl + 1, cap5)) (by have h1 := hso5.1; omega : q < ss.length)
                  refine ⟨⟨j + 1, cn2, zs6, by omega, by push_cast; rfl, ?_, H6.out.2.1, ?_, ?_, HF.out.2.2.2.2.2.2.2.1, ?_, ?_⟩, by simp [intOf]; omega⟩
                  · exact ((HF.out.2.2.2.2.2.2.2.2.1.on hBA).kept hg5' (hn5 gp (by omega)) (hn5 pb (by omega))).kept hset (hns gp (by omega)) (hns pb (by omega))
                  · exact (((HF.out.2.2.2.2.2.2.2.2.2.1.below hBA HF.out.2.2.2.2.2.2.2.2.2.1.lt)).grown hg5' (hn5 fb (by omega))).grown hset (hns fb (by omega))
                  · exact ((HF.out.2.2.2.2.2.2.1.below hBA HF.out.2.2.2.2.2.2.1.lt).kept hg5' (hn5 ab (by omega))).kept hset (hns ab (by omega))
                  · rw [← HF.out.1]
                    refine ⟨ss.set q (some ⟨g5, 0, none⟩, npl + 1, cap5), ?_, hel5.step hset hrow5, apart_set HF.out.2.2.2.2.2.1 HF.out.2.1 (fun gg hgg => ?_)⟩
                    · rw [List.length_set, ← HF.out.2.2.2.2.2.2.2.2.2.2.2.1]
                      exact hss
                    · cases hgg
                      rcases hat5' with h | h
                      · exact .inl h
                      · exact .inr (HA.out.2.2.2.2.2.away (by rw [h]; exact Nat.le_refl _))
                  · have b1 := HF.out.2.2.2.2.2.2.2.2.2.2.1.trans (hBA.mono hBR)
                    have b2 := b1.grown hg5' b1.size (fun x hx => by have := hbl x hx; omega)
                    exact b2.setCell (p := ⟨go, q, none⟩) (by dsimp only; omega) _
                · obtain rfl : j = i := by omega
                  have i3 : ¬ (j : Int) < (j : Int) := by omega
                  have hz := H1.out.1.size
                  rw [hnp] at hpc
                  have HE := hide (And.intro (hpc.base_le (b' := w.heap.size) (by omega)) (H1.out.1.trans (hB.mono hz)))
                  clear hp hro hfn hM hcn hpc hB
                  have HN := hide hnp
                  clear hnp
                  go_wp2
                  go_ret
                  have hnp := HN.out
                  refine ⟨_, rfl, ?_, HE.out.2⟩
                  have h9 := HE.out.1
                  rw [← hnp] at h9
                  rw [HC.out.2.1]
                  exact h9
            · have hme : m e = pv := by rw [← HW.out.1 e, hm8]; rfl
              have ho := hP.gps.1 e
              rw [hme] at ho
              obtain ⟨A5, c5, rfl⟩ := ho.form
              have hP8 := hP.step hr8 hg8
              have hmon : mo e ≠ none := by rw [hm8]; simp
              obtain ⟨left2, hl2⟩ : ∃ l, l = fun q => left q && !decide (q = e) := ⟨_, rfl⟩
              rw [← hl2] at hP8
              obtain ⟨D, hD⟩ : ∃ D, D = fun d => mo d ≠ none ∧ left d = false := ⟨_, rfl⟩
              rw [← hD] at hT
              have hDD : ∀ d, (mo d ≠ none ∧ left2 d = false) ↔ D d ∨ d = e := fun d => by
                rw [hl2, hD]
                dsimp only
                rw [Bool.and_eq_false_iff, Bool.not_eq_false', decide_eq_true_eq]
                constructor
                · rintro ⟨h1, h2 | h2⟩
                  · exact .inl ⟨h1, h2⟩
                  · exact .inr h2
                · rintro (⟨h1, h2⟩ | h2)
                  · exact ⟨h1, .inl h2⟩
                  · exact ⟨by rw [h2]; exact hmon, .inr h2⟩
              have hT2 := jn2_edge hT e
              obtain ⟨L, hL⟩ : ∃ L, L = (withE C e).length := ⟨_, rfl⟩
              have hLb : L ≤ 300000 := by
                have h1 := withK_len C e C.length
                have h2 := HC.out.2.1
                rw [hL]
                show (withK C C.length e).length ≤ 300000
                omega
              rw [← hL] at hme hrunN hent
              have HU := hide (And.intro hP8 (And.intro hT2 (And.intro hDD (And.intro hlt8 (And.intro hHL (And.intro hme hL))))))
              clear hP hT hHL hr8 hlt8 hg8 hm8 hleft hme ho hP8 hmon hDD hT2 hl2 hD hL hrun hz8
              go_upto_region 25 with fail
              clear hrunN hent
              obtain ⟨eb, heb⟩ : ∃ g, g = w8.heap.size := ⟨_, rfl⟩
              obtain ⟨Y, hY⟩ : ∃ Y, Y = w8.alloc (.cells (cE e) 81) := ⟨_, rfl⟩
              rw [← hY, ← heb]
              have hbe : Blk Y eb 81 (cE e) := by rw [hY, heb]; exact Blk.new _ _ _
              have hBY : Below w8.heap.size w8 Y := by rw [hY]; exact (Below.refl _ w8).alloc (Nat.le_refl _) _
              have hgeb : gp < eb := by rw [heb]; exact HU.out.1.par.lt
              have HY := hide (And.intro hbe (HU.out.1.on hBY))
              clear hY heb hbe hBY
              go_wp2_with fail
              go_loopw [91] (fun av wr => ∃ (a : Nat) (zs : List Nat), a ≤ L ∧ av = .int .i64 a ∧ PrtR W1 wr gp pb fb mb rb i cnt zs mo m (withE C) left2 c'' ∧ Blk wr eb 81 (cE e) ∧ Tells (rootP (numR zs)) (jn2 C D e a)) (fun av _ => L - (intOf av).toNat)
              case atStart => exact ⟨0, ys, by omega, rfl, HY.out.2, HY.out.1, HU.out.2.1⟩
              case round =>
                clear HY
                obtain ⟨a, zs, ha, rfl, hP, hbe, hT⟩ := hrel
                obtain ⟨V, rfl⟩ : ∃ V, V = wr := ⟨_, rfl⟩
                by_cases haL : a < L
                · have i3 : (a : Int) < (L : Int) := by omega
                  obtain ⟨k', hk'⟩ : ∃ k, (withE C e)[a]? = some k := ⟨_, List.getElem?_eq_getElem (by rw [← HU.out.2.2.2.2.2.2]; exact haL)⟩
                  have hki : k' < i := by
                    obtain ⟨t, h1, _⟩ := withE_mem.1 (List.mem_of_getElem? hk')
                    have := (List.getElem?_eq_some_iff.1 h1).1
                    rw [HC.out.2.1] at this; exact this
                  obtain ⟨lb, lo, hA5, hlbl, d0⟩ := hP.num HU.out.2.2.2.2.2.1 hk'
                  subst hA5
                  have hos := hP.gps.1 (swapE e)
                  obtain ⟨A6, c6, hv6⟩ := hos.form
                  rw [hv6] at hos
                  have hc6 := hos.place.1
                  have hlk := fun W (hW : Below V.heap.size V W) => hP.look2 HW.out.1 (swapE e) ⟨hok.2, hok.1⟩ hv6 hW
                  obtain ⟨L6, hL6⟩ : ∃ L, L = (withE C (swapE e)).length := ⟨_, rfl⟩
                  rw [← hL6] at hlk hc6 hv6
                  obtain ⟨q, hq⟩ : ∃ q, q = min L6 1 := ⟨_, rfl⟩
                  have e1 : min (L6 : Int) 1 = (q : Int) := by omega
                  have hqL : q ≤ L6 := by omega
                  have hcut : ∀ W : World, (Instr.slice 23 (.slice A6 L6 c6) none (some (.int .i64 q)) none).run Tryz.prog W = .ok (.slice A6 q c6) W := fun W => run_cutH Tryz.underlying23 Tryz.sizeOf3 hqL hc6 W
                  have hSV : ∀ W, Below V.heap.size V W → (Instr.lookup 95 (.map (some mb)) (vE (swapE e)) false).run Tryz.prog W = .ok (.slice A6 L6 c6) W ∧ Blk W eb 81 (cE e) := fun W hW => ⟨hlk W hW, hbe.below hW hbe.lt⟩
                  have HS := hide (And.intro hSV (hSV V.drew (Below.refl _ V).drew))
                  have HV := hide (And.intro hP (And.intro hbe (And.intro hT (And.intro hk' (And.intro hv6 (And.intro hL6 hq))))))
                  clear hP hbe hT hk' hos hv6 hlk hL6 hSV hq hc6
                  go_upto_region 28 with fail
                  refine wp_region_mix (fun W => (Instr.lookup 95 (.map (some mb)) (vE (swapE e)) false).run Tryz.prog W = .ok (.slice A6 L6 c6) W ∧ Blk W eb 81 (cE e)) [0, 1, 4, 5, 12, 3] [0, 1, 4, 5, 12, 2, 3, 6, 7, 8, 9, 10, 11] mixed_ok (by kernel_rfl) ?_
                  refine wpMix_q (v := .map (some mb)) rfl rfl (fun _ _ _ h => h) HS.out.2 ⟨rfl, fun _ _ => by simp [go_sem]⟩ ?_
                  refine wpMix_q (v := vE e) rfl rfl (fun _ _ _ h => h) HS.out.2 ⟨rfl, fun _ h' => by obtain ⟨x0, x1, x2, x3, x4, x5⟩ := h'.2.six4; simp [go_sem, x0, x1, x2, x3, x4, x5]⟩ ?_
                  refine wpMix_q (v := .map (some mb)) rfl rfl (fun _ _ _ h => h) HS.out.2 ⟨rfl, fun _ _ => by simp [go_sem]⟩ ?_
                  refine wpMix_q (v := vE e) rfl rfl (fun _ _ _ h => h) HS.out.2 ⟨rfl, fun _ h' => by obtain ⟨x0, x1, x2, x3, x4, x5⟩ := h'.2.six4; simp [go_sem, x0, x1, x2, x3, x4, x5]⟩ ?_
                  refine wpMix_q (v := .int .i64 0) rfl rfl (fun _ _ _ h => h) HS.out.2 ⟨rfl, fun _ _ => by simp [go_sem]⟩ ?_
                  simp only [List.getElem_toArray, List.getElem_cons_succ, List.getElem_cons_zero, Act.put, List.setIfInBounds_toArray, List.set_cons_succ, List.set_cons_zero]
                  refine wpMix_n rfl rfl ?_
                  go_wp2_with fail
                  refine (opp_any e V.drew).mono ?_
                  rintro _ w9 ⟨rfl, hB9⟩
                  have hB9 : Below V.heap.size V w9 := (Below.refl V.heap.size V).drew.trans hB9
                  have HB9 := hide hB9
                  clear hB9
                  go_wp2_with fail
                  refine ⟨fun _ => HS.out.1 w9 HB9.out, ?_⟩
                  have HQ9 := hide (HS.out.1 w9 HB9.out)
                  refine wpMix_q (v := .slice A6 L6 c6) rfl rfl (fun _ _ _ h => h) HQ9.out ⟨rfl, fun _ h' => by simp [go_sem, h'.1]⟩ ?_
                  simp only [List.getElem_toArray, List.getElem_cons_succ, List.getElem_cons_zero, Act.put, List.setIfInBounds_toArray, List.set_cons_succ, List.set_cons_zero]
                  refine wpMix_n rfl rfl ?_
                  go_wp2_with fail
                  refine (opp_any e w9).mono ?_
                  rintro _ w10 ⟨rfl, hB10⟩
                  have hB10 : Below V.heap.size V w10 := HB9.out.trans (hB10.mono HB9.out.size)
                  have HB10 := hide hB10
                  have hlk10 := (HS.out.1 w10 hB10).1
                  clear hB10
                  go_wp2_with fail
                  refine ⟨fun _ => HS.out.1 w10 HB10.out, ?_⟩
                  refine wpMix_n rfl rfl ?_
                  go_wp2_with fail
                  refine ⟨fun _ => HS.out.1 w10 HB10.out, ?_⟩
                  refine wpMix_n rfl rfl ?_
                  go_wp2_with fail
                  refine ⟨fun _ => HS.out.1 w10 HB10.out, ?_⟩
                  refine wpMix_n rfl rfl ?_
                  go_wp2_with fail
                  refine ⟨fun _ => HS.out.1 w10 HB10.out, ?_⟩
                  refine wpMix_n rfl rfl ?_
                  go_wp2_with fail
                  refine ⟨fun _ => HS.out.1 w10 HB10.out, ?_⟩
                  refine wpMix_n rfl rfl ?_
                  go_wp2_with fail
                  refine ⟨fun _ => HS.out.1 w10 HB10.out, wpMix_nil ?_⟩
                  go_wp2_with fail
                  go_loopw [107] (fun bv wr => ∃ (b : Nat) (us : List Nat), b ≤ q ∧ bv = .int .i64 b ∧ PrtR W1 wr gp pb fb mb rb i cnt us mo m (withE C) left2 c'' ∧ Blk wr eb 81 (cE e) ∧ (b = 0 → Tells (rootP (numR us)) (jn2 C D e a)) ∧ (b = 1 → Tells (rootP (numR us)) (jn2 C D e (a + 1)))) (fun bv _ => q - (intOf bv).toNat)
                  case atStart => exact ⟨0, zs, by omega, rfl, HV.out.1.on HB10.out, HV.out.2.1.below HB10.out HV.out.2.1.lt, fun _ => HV.out.2.2.1, fun h => by omega⟩
                  case round =>
                    clear HB9 HB10 HQ9 hlk10
                    obtain ⟨b, us, hb, rfl, hP, hbe, hT0, hT1⟩ := hrel
                    obtain ⟨R, rfl⟩ : ∃ V, V = wr := ⟨_, rfl⟩
                    have hq1 := HV.out.2.2.2.2.2.2
                    by_cases hbq : b < q
                    · obtain rfl : b = 0 := by omega
                      have i4 : ((0 : Nat) : Int) < (q : Int) := by omega
                      obtain ⟨o, ho⟩ : ∃ o, (withE C (swapE e))[0]? = some o := ⟨_, List.getElem?_eq_getElem (by rw [← HV.out.2.2.2.2.2.1]; omega)⟩
                      have hoi : o < i := by
                        obtain ⟨t, h1, _⟩ := withE_mem.1 (List.mem_of_getElem? ho)
                        have := (List.getElem?_eq_some_iff.1 h1).1
                        rw [HC.out.2.1] at this; exact this
                      obtain ⟨ob, oo, hA6, hol, d1⟩ := hP.num HV.out.2.2.2.2.1 ho
                      subst hA6
                      rw [Nat.add_zero] at d1
                      have hjn := jn2_join (hT0 rfl) HV.out.2.2.2.1 ho
                      have hjc := join4_any fb pb gp i us k' o hki hoi R hP.par (hP.fun_.cell 0) (Nat.ne_of_gt (Nat.lt_trans hP.o2 hP.o3))
                      have HE := hide (And.intro hP (And.intro hbe (And.intro hjn hjc)))
                      clear hP hbe hT0 hT1 hjn hjc ho hq1
                      go_wp2_with (go_at_call 70; refine HE.out.2.2.2.mono ?_; rintro _ w6 ⟨rfl, vs, hp6, hr6, hg6⟩)
                      have hT2 : Tells (rootP (numR vs)) (jn2 C D e (a + 1)) := by
                        have : rootP (numR vs) = joinR (rootP (numR us)) k' o := funext hr6
                        rw [this]; exact HE.out.2.2.1
                      have hP6 := HE.out.1.turn hp6 hg6
                      have hb6 := HE.out.2.1.grown hg6 (fun e => by injection e with e; omega)
                      have HF := hide (And.intro hT2 (And.intro hP6 hb6))
                      clear hT2 hP6 hb6 hp6 hr6 hg6
                      go_wp2
                      go_roundw
                      case rel => exact ⟨0 + 1, vs, by omega, by go_num, HF.out.2.1, HF.out.2.2, fun h => by omega, fun _ => HF.out.1⟩
                      case measure => (simp [intOf]; try omega)
                    · have hbe2 : b = q := by omega
                      have i4 : ¬ (b : Int) < (q : Int) := by omega
                      have hT2 : Tells (rootP (numR us)) (jn2 C D e (a + 1)) := by
                        rcases (show q = 0 ∨ q = 1 by omega) with h | h
                        · refine jn2_none (hT0 (by omega)) ?_
                          have h6 : (withE C (swapE e)).length = 0 := by rw [← HV.out.2.2.2.2.2.1]; omega
                          rw [List.eq_nil_of_length_eq_zero h6]; rfl
                        · exact hT1 (by omega)
                      have HE := hide (And.intro hP (And.intro hbe hT2))
                      clear hP hbe hT0 hT1 hT2 hbe2 hq1
                      go_wp2
                      go_roundw
                      case rel => exact ⟨a + 1, us, by omega, by go_num, HE.out.1, HE.out.2.1, HE.out.2.2⟩
                      case measure => (simp [intOf]; try omega)
                · obtain rfl : a = L := by omega
                  have i3 : ¬ (a : Int) < (a : Int) := by omega
                  have hT2 := jn2_done (D' := fun d => mo d ≠ none ∧ left2 d = false) (by rw [← HU.out.2.2.2.2.2.2]; exact hT) HU.out.2.2.1
                  have HE := hide (And.intro hP hT2)
                  clear hP hbe hT hT2
                  go_wp2
                  go_roundw
                  case rel => exact ⟨left2, c'', zs, e, HE.out.1, HE.out.2⟩
                  case measure =>
                    rw [HE.out.1.rng.left_eq, HU.out.2.2.2.2.1]
                    exact HU.out.2.2.2.1
end Go.Proofs.YtelfnmohpjkilaaGreatDoor
