/- ref07.Made (printed by mk_Made7.py). -/
import Derived.Test.YtdpgohpbannfnaaCB1
import Derived.Test.YtdpgohpbannfnaaCB11
import Derived.Test.YtdpgohpbannfnaaCB14
namespace Go.Proofs.Ytdpgohpbannfnaa
open Go.RowKit Go.Sort Go.WideMaps Go.Maps
/-- The vertices that numbers give. -/
def madeK (m : Nat) (ns : List Int) : List Nat := ns.map fun q => (modC q ((m * m * m : Nat) : Int)).toNat
theorem madeK_lt {m : Nat} (hm : 0 < m) (ns : List Int) : ∀ k ∈ madeK m ns, k < m * m * m := by
  intro k hk
  obtain ⟨q, _, rfl⟩ := List.mem_map.1 hk
  have hp : 0 < m * m * m := Nat.mul_pos (Nat.mul_pos hm hm) hm
  have h := modC_bound q ((m * m * m : Nat) : Int) (by omega)
  have h2 : ((modC q ((m * m * m : Nat) : Int)).toNat : Int) < ((m * m * m : Nat) : Int) := by rw [Int.toNat_of_nonneg h.1]; exact h.2
  omega
/-- What the loop has. -/
structure MdS (L N : Nat) (b0 : Nat) (X0 wx : World) (gf g : Nat) (F : List Bool) : Prop where
  box : Blk wx gf 32 #[.int .i64 L, .slice (some ⟨g, 0, none⟩) N N]
  row : RowB wx g F
  len : F.length = N
  bel : Below b0 X0 wx
theorem MdS.put {L N b0 : Nat} {X0 wx : World} {gf g : Nat} {F : List Bool} (h : MdS L N b0 X0 wx gf g F) (hne : gf ≠ g) (hg : b0 ≤ g) (i : Nat) :
    MdS L N b0 X0 (wx.setCell ⟨g, i, none⟩ (.bool true)).drew gf g (F.set i true) :=
  ⟨(h.box.far (p := ⟨g, i, none⟩) hne _), (h.row.set i true), by rw [List.length_set]; exact h.len, (h.bel.setCell (by dsimp only; omega) _).drew⟩
theorem madeL_len (m : Nat) (ks : List Nat) : (madeL m ks).length = (m + 2) * (m + 2) * (m + 2) := by
  have key : ∀ (ks : List Nat) (F : List Bool), (ks.foldl (fun F k => F.set (mdN m k) true) F).length = F.length := by
    intro ks
    induction ks with
    | nil => intro F; rfl
    | cons k ks ih => intro F; rw [List.foldl_cons, ih, List.length_set]
  unfold madeL
  rw [key, List.length_replicate]
theorem fld_ret7 {w V : World} {L : Int} {g N : Nat} {a0 a1 : Value} {fn : Func} {R : Ending → World → Prop} {a : Act} {w' : World} (hd : a.defers = []) (h : Blk V w.heap.size 32 #[a0, a1])
    (hr : ∀ Z : World, Z.cell? ⟨w.heap.size, 0, none⟩ = some (.int .i64 L) → Z.cell? ⟨w.heap.size, 1, none⟩ = some (.slice (some ⟨g, 0, none⟩) N N) → (results fn a.tmps).run Try.prog Z = .ok (.agg #[.int .i64 L, .slice (some ⟨g, 0, none⟩) N N]) Z)
    (hw : w' = (V.setCell ⟨w.heap.size, 0, none⟩ (.int .i64 L)).setCell ⟨w.heap.size, 1, none⟩ (.slice (some ⟨g, 0, none⟩) N N))
    (hR : ∀ W, W = (V.setCell ⟨w.heap.size, 0, none⟩ (.int .i64 L)).setCell ⟨w.heap.size, 1, none⟩ (.slice (some ⟨g, 0, none⟩) N N) → R (.returned (.agg #[.int .i64 L, .slice (some ⟨g, 0, none⟩) N N])) W) : bodyPost Try.prog fn R .ret a w' := by
  subst hw
  have h2 := (h.set_ 0 (.int .i64 L)).set_ 1 (.slice (some ⟨g, 0, none⟩) N N)
  exact bodyPost_ret (hr _ (h2.cell 0) (h2.cell 1)) hd (hR _ rfl)
set_option maxRecDepth 100000 in
set_option maxHeartbeats 32000000 in
theorem made7_1 (n : Int) (hn : modC n 3 = 0) (A : Option Addr) (c : Nat) (ns : List Int) (w : World) (hs : ns ≠ [] → Sl encZ 1 w w.heap.size A ns) (_hl : ns.length ≤ 9223372036854775807) :
    Calls Try.prog 16 #[.int .i64 n, .slice A ns.length c] w fun e w' => ∃ g, e = .returned (.agg #[.int .i64 1, .slice (some ⟨g, 0, none⟩) 27 27]) ∧ RowB w' g (madeL 1 (madeK 1 ns)) ∧ w.heap.size ≤ g ∧ Below w.heap.size w w' := by
  obtain ⟨nl, hnl⟩ : ∃ nl, nl = ns.length := ⟨_, rfl⟩
  rw [← hnl] at _hl ⊢
  have hmn : ∀ W : World, Calls Try.prog 21 #[.int .i64 n, .int .i64 3] W fun e w' => e = .returned (.int .i64 0) ∧ w' = W := fun W => by rw [← hn]; exact mod_any n 3 (by omega) (by omega) W
  have hsd : ∀ W : World, Calls Try.prog 20 #[.int .i64 1] W fun e w' => e = .returned (.int .i64 3) ∧ w' = W := fun W => side7_any 1 W
  have hmN : ∀ W : World, (Instr.makeSlice 30 (.int .i64 27) (.int .i64 27)).run Try.prog W = .ok (.slice (some ⟨W.heap.size, 0, none⟩) 27 27) (W.alloc (.cells ((List.replicate 27 false).map Value.bool).toArray 4)) := mk_bl7 27 (by omega)
  obtain ⟨ZN, hZN⟩ : ∃ Z, Z = ((List.replicate 27 false).map Value.bool).toArray := ⟨_, rfl⟩
  rw [← hZN] at hmN
  have HS := hide (And.intro hs (And.intro hnl hZN))
  have HM := hide (And.intro hmn hsd)
  clear hs hnl hZN hmn hsd hn
  go_enter Try.func16, Try.ntmps16
  go_upto_region 1 with fail
  obtain ⟨X0, hX0⟩ : ∃ X, X = w.alloc (.cells #[.int .i64 0, .slice none 0 0] 32) := ⟨_, rfl⟩
  rw [← hX0]
  have hB0 : Below w.heap.size w X0 := by rw [hX0]; exact (Below.refl _ w).alloc (Nat.le_refl _) _
  have hr0 : Blk X0 w.heap.size 32 #[.int .i64 0, .slice none 0 0] := by rw [hX0]; exact Blk.new _ _ _
  have hz0 : X0.heap.size = w.heap.size + 1 := by rw [hX0]; simp
  have H0 := hide (And.intro hB0 hr0)
  clear hX0 hB0 hr0
  go_wp2_with fail
  refine (HM.out.1 _).mono ?_
  rintro e w1 ⟨rfl, rfl⟩
  go_wp2_with fail
  refine (HM.out.2 _).mono ?_
  rintro e w1 ⟨rfl, rfl⟩
  obtain ⟨X0, rfl⟩ : ∃ X, X = w1 := ⟨_, rfl⟩
  go_upto_region 2 with fail
  go_cut [6] (fun p wx => ∃ gf g, p = .pointer (some ⟨gf, 0, none⟩) ∧ gf ≠ g ∧ w.heap.size + 1 ≤ gf ∧ w.heap.size + 1 ≤ g ∧ MdS 1 27 (w.heap.size + 1) X0 wx gf g (madeL 1 []))
  case first =>
    refine wp_region_tree3 (fun _ => True) [0, 3, 4, 5, 6, 7, 2, 9] (.q 0 (.q 3 (.q 4 (.q 5 (.q 6 (.q 7 (.three 1 (.q 2 (.two 8 (.q 9 (.one 10 (.one 11 .nil))) 10 (.one 8 (.q 9 (.one 11 .nil))))) 8 (.two 1 (.q 2 (.q 9 (.one 10 (.one 11 .nil)))) 10 (.one 1 (.q 2 (.q 9 (.one 11 .nil))))) 10 (.two 1 (.q 2 (.one 8 (.q 9 (.one 11 .nil)))) 8 (.one 1 (.q 2 (.q 9 (.one 11 .nil)))))))))))) mixed_ok (by kernel_rfl) ?_
    refine wpMixU_q (v := .int .i64 n) rfl (fun _ _ _ h => h) trivial ⟨rfl, fun _ _ => by simp [go_sem] <;> decide⟩ ?_
    refine wpMixU_q (v := .int .i64 3) rfl (fun _ _ _ h => h) trivial ⟨rfl, fun _ _ => by simp [go_sem] <;> decide⟩ ?_
    refine wpMixU_q (v := .int .i64 3) rfl (fun _ _ _ h => h) trivial ⟨rfl, fun _ _ => by simp [go_sem] <;> decide⟩ ?_
    refine wpMixU_q (v := .int .i64 9) rfl (fun _ _ _ h => h) trivial ⟨rfl, fun _ _ => by simp [go_sem] <;> decide⟩ ?_
    refine wpMixU_q (v := .int .i64 3) rfl (fun _ _ _ h => h) trivial ⟨rfl, fun _ _ => by simp [go_sem] <;> decide⟩ ?_
    refine wpMixU_q (v := .int .i64 27) rfl (fun _ _ _ h => h) trivial ⟨rfl, fun _ _ => by simp [go_sem] <;> decide⟩ ?_
    refine wpMixU_three rfl rfl rfl ?_ ?_ ?_
    · go_wp2_with fail
      refine (HM.out.1 _).mono ?_
      rintro e w1 ⟨rfl, rfl⟩
      go_wp2_with fail
      refine ⟨fun _ => trivial, ?_⟩
      refine wpMixU_q (v := .int .i64 1) rfl (fun _ _ _ h => h) trivial ⟨rfl, fun _ _ => by simp [go_sem] <;> decide⟩ ?_
      refine wpMixU_two rfl rfl ?_ ?_
      · go_wp2_with fail
        refine ⟨fun _ => trivial, ?_⟩
        refine wpMixU_q (v := .agg #[.int .i64 1, .slice (some ⟨w.heap.size + 1, 0, none⟩) 27 27]) rfl (fun _ _ _ h => h) trivial ⟨rfl, fun _ _ => by simp [go_sem]⟩ ?_
        refine wpMixU_one rfl ?_
        go_wp2_with fail
        refine ⟨fun _ => trivial, ?_⟩
        refine wpMixU_one rfl ?_
        go_wp2_with fail
        refine ⟨fun _ => trivial, wpMixU_nil ?_⟩
        go_wp2_with fail
        go_meet
        case rel =>
          refine ⟨_, w.heap.size + 1, rfl, by omega, by omega, by omega, ⟨?_, ?_, ?_, ?_⟩⟩
          · exact Blk.new' _ _ _ _ (by simp [hz0])
          · rw [show RowB _ _ _ = Blk _ _ _ _ from rfl, show ((madeL 1 []).map Value.bool).toArray = ZN from HS.out.2.2.symm]; exact (Blk.new' _ _ _ _ hz0.symm).alloc _
          · exact madeL_len _ _
          · exact (((Below.refl _ X0).alloc (by omega) _).alloc (by simp [hz0]) _).drew
      · go_wp2_with fail
        refine ⟨fun _ => trivial, ?_⟩
        refine wpMixU_one rfl ?_
        go_wp2_with fail
        refine ⟨fun _ => trivial, ?_⟩
        refine wpMixU_q (v := .agg #[.int .i64 1, .slice (some ⟨w.heap.size + 1 + 1, 0, none⟩) 27 27]) rfl (fun _ _ _ h => h) trivial ⟨rfl, fun _ _ => by simp [go_sem]⟩ ?_
        refine wpMixU_one rfl ?_
        go_wp2_with fail
        refine ⟨fun _ => trivial, wpMixU_nil ?_⟩
        go_wp2_with fail
        go_meet
        case rel =>
          refine ⟨_, w.heap.size + 1 + 1, rfl, by omega, by omega, by omega, ⟨?_, ?_, ?_, ?_⟩⟩
          · exact (Blk.new' _ _ _ _ hz0.symm).alloc _
          · rw [show RowB _ _ _ = Blk _ _ _ _ from rfl, show ((madeL 1 []).map Value.bool).toArray = ZN from HS.out.2.2.symm]; exact Blk.new' _ _ _ _ (by simp [hz0])
          · exact madeL_len _ _
          · exact (((Below.refl _ X0).alloc (by omega) _).alloc (by simp [hz0]) _).drew
    · go_wp2_with fail
      refine ⟨fun _ => trivial, ?_⟩
      refine wpMixU_two rfl rfl ?_ ?_
      · go_wp2_with fail
        refine (HM.out.1 _).mono ?_
        rintro e w1 ⟨rfl, rfl⟩
        go_wp2_with fail
        refine ⟨fun _ => trivial, ?_⟩
        refine wpMixU_q (v := .int .i64 1) rfl (fun _ _ _ h => h) trivial ⟨rfl, fun _ _ => by simp [go_sem] <;> decide⟩ ?_
        refine wpMixU_q (v := .agg #[.int .i64 1, .slice (some ⟨w.heap.size + 1, 0, none⟩) 27 27]) rfl (fun _ _ _ h => h) trivial ⟨rfl, fun _ _ => by simp [go_sem]⟩ ?_
        refine wpMixU_one rfl ?_
        go_wp2_with fail
        refine ⟨fun _ => trivial, ?_⟩
        refine wpMixU_one rfl ?_
        go_wp2_with fail
        refine ⟨fun _ => trivial, wpMixU_nil ?_⟩
        go_wp2_with fail
        go_meet
        case rel =>
          refine ⟨_, w.heap.size + 1, rfl, by omega, by omega, by omega, ⟨?_, ?_, ?_, ?_⟩⟩
          · exact Blk.new' _ _ _ _ (by simp [hz0])
          · rw [show RowB _ _ _ = Blk _ _ _ _ from rfl, show ((madeL 1 []).map Value.bool).toArray = ZN from HS.out.2.2.symm]; exact (Blk.new' _ _ _ _ hz0.symm).alloc _
          · exact madeL_len _ _
          · exact (((Below.refl _ X0).alloc (by omega) _).alloc (by simp [hz0]) _).drew
      · go_wp2_with fail
        refine ⟨fun _ => trivial, ?_⟩
        refine wpMixU_one rfl ?_
        go_wp2_with fail
        refine (HM.out.1 _).mono ?_
        rintro e w1 ⟨rfl, rfl⟩
        go_wp2_with fail
        refine ⟨fun _ => trivial, ?_⟩
        refine wpMixU_q (v := .int .i64 1) rfl (fun _ _ _ h => h) trivial ⟨rfl, fun _ _ => by simp [go_sem] <;> decide⟩ ?_
        refine wpMixU_q (v := .agg #[.int .i64 1, .slice (some ⟨w.heap.size + 1, 0, none⟩) 27 27]) rfl (fun _ _ _ h => h) trivial ⟨rfl, fun _ _ => by simp [go_sem]⟩ ?_
        refine wpMixU_one rfl ?_
        go_wp2_with fail
        refine ⟨fun _ => trivial, wpMixU_nil ?_⟩
        go_wp2_with fail
        go_meet
        case rel =>
          refine ⟨_, w.heap.size + 1, rfl, by omega, by omega, by omega, ⟨?_, ?_, ?_, ?_⟩⟩
          · exact Blk.new' _ _ _ _ (by simp [hz0])
          · rw [show RowB _ _ _ = Blk _ _ _ _ from rfl, show ((madeL 1 []).map Value.bool).toArray = ZN from HS.out.2.2.symm]; exact (Blk.new' _ _ _ _ hz0.symm).alloc _
          · exact madeL_len _ _
          · exact (((Below.refl _ X0).alloc (by omega) _).alloc (by simp [hz0]) _).drew
    · go_wp2_with fail
      refine ⟨fun _ => trivial, ?_⟩
      refine wpMixU_two rfl rfl ?_ ?_
      · go_wp2_with fail
        refine (HM.out.1 _).mono ?_
        rintro e w1 ⟨rfl, rfl⟩
        go_wp2_with fail
        refine ⟨fun _ => trivial, ?_⟩
        refine wpMixU_q (v := .int .i64 1) rfl (fun _ _ _ h => h) trivial ⟨rfl, fun _ _ => by simp [go_sem] <;> decide⟩ ?_
        refine wpMixU_one rfl ?_
        go_wp2_with fail
        refine ⟨fun _ => trivial, ?_⟩
        refine wpMixU_q (v := .agg #[.int .i64 1, .slice (some ⟨w.heap.size + 1 + 1, 0, none⟩) 27 27]) rfl (fun _ _ _ h => h) trivial ⟨rfl, fun _ _ => by simp [go_sem]⟩ ?_
        refine wpMixU_one rfl ?_
        go_wp2_with fail
        refine ⟨fun _ => trivial, wpMixU_nil ?_⟩
        go_wp2_with fail
        go_meet
        case rel =>
          refine ⟨_, w.heap.size + 1 + 1, rfl, by omega, by omega, by omega, ⟨?_, ?_, ?_, ?_⟩⟩
          · exact (Blk.new' _ _ _ _ hz0.symm).alloc _
          · rw [show RowB _ _ _ = Blk _ _ _ _ from rfl, show ((madeL 1 []).map Value.bool).toArray = ZN from HS.out.2.2.symm]; exact Blk.new' _ _ _ _ (by simp [hz0])
          · exact madeL_len _ _
          · exact (((Below.refl _ X0).alloc (by omega) _).alloc (by simp [hz0]) _).drew
      · go_wp2_with fail
        refine ⟨fun _ => trivial, ?_⟩
        refine wpMixU_one rfl ?_
        go_wp2_with fail
        refine (HM.out.1 _).mono ?_
        rintro e w1 ⟨rfl, rfl⟩
        go_wp2_with fail
        refine ⟨fun _ => trivial, ?_⟩
        refine wpMixU_q (v := .int .i64 1) rfl (fun _ _ _ h => h) trivial ⟨rfl, fun _ _ => by simp [go_sem] <;> decide⟩ ?_
        refine wpMixU_q (v := .agg #[.int .i64 1, .slice (some ⟨w.heap.size + 1 + 1, 0, none⟩) 27 27]) rfl (fun _ _ _ h => h) trivial ⟨rfl, fun _ _ => by simp [go_sem]⟩ ?_
        refine wpMixU_one rfl ?_
        go_wp2_with fail
        refine ⟨fun _ => trivial, wpMixU_nil ?_⟩
        go_wp2_with fail
        go_meet
        case rel =>
          refine ⟨_, w.heap.size + 1 + 1, rfl, by omega, by omega, by omega, ⟨?_, ?_, ?_, ?_⟩⟩
          · exact (Blk.new' _ _ _ _ hz0.symm).alloc _
          · rw [show RowB _ _ _ = Blk _ _ _ _ from rfl, show ((madeL 1 []).map Value.bool).toArray = ZN from HS.out.2.2.symm]; exact Blk.new' _ _ _ _ (by simp [hz0])
          · exact madeL_len _ _
          · exact (((Below.refl _ X0).alloc (by omega) _).alloc (by simp [hz0]) _).drew
  case rest =>
    obtain ⟨gf, g, rfl, hne, hgf, hg, hI⟩ := hcut
    obtain ⟨V, rfl⟩ : ∃ V, V = wc := ⟨_, rfl⟩
    have HV := hide hI
    clear hI hmN
    go_wp2_with fail
    go_loopw [8] (fun iv wr => ∃ (k : Nat), k ≤ nl ∧ iv = .int .i64 k ∧ MdS 1 27 (w.heap.size + 1) X0 wr gf g (madeL 1 (madeK 1 (ns.take k)))) (fun iv _ => nl - (intOf iv).toNat)
    case atStart => exact ⟨0, by omega, rfl, HV.out⟩
    case round =>
      obtain ⟨V0, rfl⟩ : ∃ V0, V0 = wr := ⟨_, rfl⟩
      obtain ⟨k, hk, rfl, hI⟩ := hrel
      have HI := hide hI
      clear hI
      by_cases hkl : ¬ k < nl
      · have i1 : ¬ (k : Int) < (nl : Int) := by omega
        have htk : ns.take k = ns := List.take_of_length_le (by rw [← HS.out.2.1]; omega)
        obtain ⟨c0, c1⟩ : V0.cell? ⟨gf, 0, none⟩ = some (.int .i64 1) ∧ V0.cell? ⟨gf, 1, none⟩ = some (.slice (some ⟨g, 0, none⟩) 27 27) := ⟨HI.out.box.cell 0, HI.out.box.cell 1⟩
        have hrr := H0.out.2.below HI.out.bel (by omega)
        obtain ⟨r0, r1⟩ := (show V0.cell? ⟨w.heap.size, 0, none⟩ = some (.int .i64 0) ∧ V0.cell? ⟨w.heap.size, 1, none⟩ = some (.slice none 0 0) from ⟨hrr.cell 0, hrr.cell 1⟩)
        have f0 := hrr.frozen 0
        have f1 := hrr.frozen 1
        have HR := hide (And.intro hrr htk)
        clear hrr htk
        go_wp2_with fail
        refine fld_ret7 (L := 1) (g := g) (N := 27) (w := w) (V := V0) rfl HR.out.1 ?_ rfl ?_
        · intro Z z0 z1
          simp [results, Try.results16, go_sem, z0, z1]
        · intro W' hW'
          refine ⟨g, rfl, ?_, by omega, ?_⟩
          · rw [hW', ← HR.out.2]; exact (HI.out.row.far (p := ⟨w.heap.size, 0, none⟩) (by dsimp only; omega) _).far (p := ⟨w.heap.size, 1, none⟩) (by dsimp only; omega) _
          · rw [hW']
            exact ((H0.out.1.trans (HI.out.bel.mono (by omega))).setCell (by dsimp only; omega) _).setCell (by dsimp only; omega) _
      · have i1 : (k : Int) < (nl : Int) := by omega
        obtain ⟨q, hq⟩ : ∃ q, ns[k]? = some q := ⟨_, List.getElem?_eq_getElem (by rw [← HS.out.2.1]; omega)⟩
        have hne0 : ns ≠ [] := fun e => by rw [e] at hq; cases hq
        obtain ⟨b, o, hA, hb, g0⟩ := ((((HS.out.1 hne0).below H0.out.1)).below (HI.out.bel.mono (by omega))).num hq
        subst hA
        have hmq := fun W => mod_any q 1 (by omega) (by omega) W
        have hbq := modC_bound q 1 (by omega)
        obtain ⟨x, hx⟩ : ∃ x : Nat, x = (modC q 1).toNat := ⟨_, rfl⟩
        have hx2 : modC q 1 = (x : Int) := by omega
        rw [hx2] at hmq
        have hxl : x < 1 := by omega
        obtain rfl : x = 0 := by omega
        rw [show ((0 : Nat) : Int) = 0 from rfl] at hmq
        have htk : madeK 1 (ns.take (k + 1)) = madeK 1 (ns.take k) ++ [0] := by
          rw [List.take_add_one, hq]; unfold madeK; rw [List.map_append]; show _ ++ [(modC q 1).toNat] = _; rw [← hx]
        obtain ⟨F, hF⟩ : ∃ F, F = madeL 1 (madeK 1 (ns.take k)) := ⟨_, rfl⟩
        have hF2 : madeL 1 (madeK 1 (ns.take (k + 1))) = F.set (mdN 1 0) true := by rw [htk, madeL_snoc, ← hF]
        rw [← hF] at HI
        have HQ := hide (And.intro hmq hF2)
        clear hmq hbq hx hx2 htk hF hF2 hq hne0
        go_wp2_with fail
        refine (HQ.out.1 _).mono ?_
        rintro e w1 ⟨rfl, rfl⟩
        obtain ⟨V0, rfl⟩ : ∃ X, X = w1 := ⟨_, rfl⟩
        go_upto_region 8 with fail
        rw [show mdN 1 0 = 13 from rfl] at HQ
        have hjN : 13 < 27 := by omega
        have k0 : IntKind.i64.wrap 0 = 0 := by decide
        have k1 : IntKind.i64.wrap 1 = 1 := by decide
        have k3 : IntKind.i64.wrap 3 = 3 := by decide
        have k4 : IntKind.i64.wrap 4 = 4 := by decide
        have k12 : IntKind.i64.wrap 12 = 12 := by decide
        have k13 : IntKind.i64.wrap 13 = 13 := by decide
        have c1 : V0.drew.cell? ⟨gf, 1, none⟩ = some (.slice (some ⟨g, 0, none⟩) 27 27) := HI.out.box.cell 1
        have c2 : V0.drew.cell? ⟨g, 13, none⟩ = some (.bool (F[13]'(by rw [HI.out.len]; exact hjN))) := HI.out.row.cell (List.getElem?_eq_getElem _)
        have f2 := HI.out.row.frozen 13
        have hjI : (13 : Int) < 27 := by omega
        have HZ := hide (HI.out.put hne hg 13)
        go_still_tail 25, (by kernel_rfl)
        repeat still_step
        change wpList _ _ _ _ _ V0.drew
        go_wp2_with fail
        go_roundw
        case rel => exact ⟨k + 1, by omega, by go_num, by rw [HQ.out.2]; exact HZ.out⟩
        case measure => simp [intOf]; omega
set_option maxRecDepth 100000 in
set_option maxHeartbeats 32000000 in
theorem made7_2 (n : Int) (hn : modC n 3 = 1) (A : Option Addr) (c : Nat) (ns : List Int) (w : World) (hs : ns ≠ [] → Sl encZ 1 w w.heap.size A ns) (_hl : ns.length ≤ 9223372036854775807) :
    Calls Try.prog 16 #[.int .i64 n, .slice A ns.length c] w fun e w' => ∃ g, e = .returned (.agg #[.int .i64 2, .slice (some ⟨g, 0, none⟩) 125 125]) ∧ RowB w' g (madeL 3 (madeK 3 ns)) ∧ w.heap.size ≤ g ∧ Below w.heap.size w w' := by
  obtain ⟨nl, hnl⟩ : ∃ nl, nl = ns.length := ⟨_, rfl⟩
  rw [← hnl] at _hl ⊢
  have hmn : ∀ W : World, Calls Try.prog 21 #[.int .i64 n, .int .i64 3] W fun e w' => e = .returned (.int .i64 1) ∧ w' = W := fun W => by rw [← hn]; exact mod_any n 3 (by omega) (by omega) W
  have hsd : ∀ W : World, Calls Try.prog 20 #[.int .i64 2] W fun e w' => e = .returned (.int .i64 5) ∧ w' = W := fun W => side7_any 2 W
  have hmN : ∀ W : World, (Instr.makeSlice 30 (.int .i64 125) (.int .i64 125)).run Try.prog W = .ok (.slice (some ⟨W.heap.size, 0, none⟩) 125 125) (W.alloc (.cells ((List.replicate 125 false).map Value.bool).toArray 4)) := mk_bl7 125 (by omega)
  obtain ⟨ZN, hZN⟩ : ∃ Z, Z = ((List.replicate 125 false).map Value.bool).toArray := ⟨_, rfl⟩
  rw [← hZN] at hmN
  have HS := hide (And.intro hs (And.intro hnl hZN))
  have HM := hide (And.intro hmn hsd)
  clear hs hnl hZN hmn hsd hn
  go_enter Try.func16, Try.ntmps16
  go_upto_region 1 with fail
  obtain ⟨X0, hX0⟩ : ∃ X, X = w.alloc (.cells #[.int .i64 0, .slice none 0 0] 32) := ⟨_, rfl⟩
  rw [← hX0]
  have hB0 : Below w.heap.size w X0 := by rw [hX0]; exact (Below.refl _ w).alloc (Nat.le_refl _) _
  have hr0 : Blk X0 w.heap.size 32 #[.int .i64 0, .slice none 0 0] := by rw [hX0]; exact Blk.new _ _ _
  have hz0 : X0.heap.size = w.heap.size + 1 := by rw [hX0]; simp
  have H0 := hide (And.intro hB0 hr0)
  clear hX0 hB0 hr0
  go_wp2_with fail
  refine (HM.out.1 _).mono ?_
  rintro e w1 ⟨rfl, rfl⟩
  go_wp2_with fail
  refine (HM.out.2 _).mono ?_
  rintro e w1 ⟨rfl, rfl⟩
  obtain ⟨X0, rfl⟩ : ∃ X, X = w1 := ⟨_, rfl⟩
  go_upto_region 2 with fail
  go_cut [6] (fun p wx => ∃ gf g, p = .pointer (some ⟨gf, 0, none⟩) ∧ gf ≠ g ∧ w.heap.size + 1 ≤ gf ∧ w.heap.size + 1 ≤ g ∧ MdS 2 125 (w.heap.size + 1) X0 wx gf g (madeL 3 []))
  case first =>
    refine wp_region_tree3 (fun _ => True) [0, 3, 4, 5, 6, 7, 2, 9] (.q 0 (.q 3 (.q 4 (.q 5 (.q 6 (.q 7 (.three 1 (.q 2 (.two 8 (.q 9 (.one 10 (.one 11 .nil))) 10 (.one 8 (.q 9 (.one 11 .nil))))) 8 (.two 1 (.q 2 (.q 9 (.one 10 (.one 11 .nil)))) 10 (.one 1 (.q 2 (.q 9 (.one 11 .nil))))) 10 (.two 1 (.q 2 (.one 8 (.q 9 (.one 11 .nil)))) 8 (.one 1 (.q 2 (.q 9 (.one 11 .nil)))))))))))) mixed_ok (by kernel_rfl) ?_
    refine wpMixU_q (v := .int .i64 n) rfl (fun _ _ _ h => h) trivial ⟨rfl, fun _ _ => by simp [go_sem] <;> decide⟩ ?_
    refine wpMixU_q (v := .int .i64 5) rfl (fun _ _ _ h => h) trivial ⟨rfl, fun _ _ => by simp [go_sem] <;> decide⟩ ?_
    refine wpMixU_q (v := .int .i64 5) rfl (fun _ _ _ h => h) trivial ⟨rfl, fun _ _ => by simp [go_sem] <;> decide⟩ ?_
    refine wpMixU_q (v := .int .i64 25) rfl (fun _ _ _ h => h) trivial ⟨rfl, fun _ _ => by simp [go_sem] <;> decide⟩ ?_
    refine wpMixU_q (v := .int .i64 5) rfl (fun _ _ _ h => h) trivial ⟨rfl, fun _ _ => by simp [go_sem] <;> decide⟩ ?_
    refine wpMixU_q (v := .int .i64 125) rfl (fun _ _ _ h => h) trivial ⟨rfl, fun _ _ => by simp [go_sem] <;> decide⟩ ?_
    refine wpMixU_three rfl rfl rfl ?_ ?_ ?_
    · go_wp2_with fail
      refine (HM.out.1 _).mono ?_
      rintro e w1 ⟨rfl, rfl⟩
      go_wp2_with fail
      refine ⟨fun _ => trivial, ?_⟩
      refine wpMixU_q (v := .int .i64 2) rfl (fun _ _ _ h => h) trivial ⟨rfl, fun _ _ => by simp [go_sem] <;> decide⟩ ?_
      refine wpMixU_two rfl rfl ?_ ?_
      · go_wp2_with fail
        refine ⟨fun _ => trivial, ?_⟩
        refine wpMixU_q (v := .agg #[.int .i64 2, .slice (some ⟨w.heap.size + 1, 0, none⟩) 125 125]) rfl (fun _ _ _ h => h) trivial ⟨rfl, fun _ _ => by simp [go_sem]⟩ ?_
        refine wpMixU_one rfl ?_
        go_wp2_with fail
        refine ⟨fun _ => trivial, ?_⟩
        refine wpMixU_one rfl ?_
        go_wp2_with fail
        refine ⟨fun _ => trivial, wpMixU_nil ?_⟩
        go_wp2_with fail
        go_meet
        case rel =>
          refine ⟨_, w.heap.size + 1, rfl, by omega, by omega, by omega, ⟨?_, ?_, ?_, ?_⟩⟩
          · exact Blk.new' _ _ _ _ (by simp [hz0])
          · rw [show RowB _ _ _ = Blk _ _ _ _ from rfl, show ((madeL 3 []).map Value.bool).toArray = ZN from HS.out.2.2.symm]; exact (Blk.new' _ _ _ _ hz0.symm).alloc _
          · exact madeL_len _ _
          · exact (((Below.refl _ X0).alloc (by omega) _).alloc (by simp [hz0]) _).drew
      · go_wp2_with fail
        refine ⟨fun _ => trivial, ?_⟩
        refine wpMixU_one rfl ?_
        go_wp2_with fail
        refine ⟨fun _ => trivial, ?_⟩
        refine wpMixU_q (v := .agg #[.int .i64 2, .slice (some ⟨w.heap.size + 1 + 1, 0, none⟩) 125 125]) rfl (fun _ _ _ h => h) trivial ⟨rfl, fun _ _ => by simp [go_sem]⟩ ?_
        refine wpMixU_one rfl ?_
        go_wp2_with fail
        refine ⟨fun _ => trivial, wpMixU_nil ?_⟩
        go_wp2_with fail
        go_meet
        case rel =>
          refine ⟨_, w.heap.size + 1 + 1, rfl, by omega, by omega, by omega, ⟨?_, ?_, ?_, ?_⟩⟩
          · exact (Blk.new' _ _ _ _ hz0.symm).alloc _
          · rw [show RowB _ _ _ = Blk _ _ _ _ from rfl, show ((madeL 3 []).map Value.bool).toArray = ZN from HS.out.2.2.symm]; exact Blk.new' _ _ _ _ (by simp [hz0])
          · exact madeL_len _ _
          · exact (((Below.refl _ X0).alloc (by omega) _).alloc (by simp [hz0]) _).drew
    · go_wp2_with fail
      refine ⟨fun _ => trivial, ?_⟩
      refine wpMixU_two rfl rfl ?_ ?_
      · go_wp2_with fail
        refine (HM.out.1 _).mono ?_
        rintro e w1 ⟨rfl, rfl⟩
        go_wp2_with fail
        refine ⟨fun _ => trivial, ?_⟩
        refine wpMixU_q (v := .int .i64 2) rfl (fun _ _ _ h => h) trivial ⟨rfl, fun _ _ => by simp [go_sem] <;> decide⟩ ?_
        refine wpMixU_q (v := .agg #[.int .i64 2, .slice (some ⟨w.heap.size + 1, 0, none⟩) 125 125]) rfl (fun _ _ _ h => h) trivial ⟨rfl, fun _ _ => by simp [go_sem]⟩ ?_
        refine wpMixU_one rfl ?_
        go_wp2_with fail
        refine ⟨fun _ => trivial, ?_⟩
        refine wpMixU_one rfl ?_
        go_wp2_with fail
        refine ⟨fun _ => trivial, wpMixU_nil ?_⟩
        go_wp2_with fail
        go_meet
        case rel =>
          refine ⟨_, w.heap.size + 1, rfl, by omega, by omega, by omega, ⟨?_, ?_, ?_, ?_⟩⟩
          · exact Blk.new' _ _ _ _ (by simp [hz0])
          · rw [show RowB _ _ _ = Blk _ _ _ _ from rfl, show ((madeL 3 []).map Value.bool).toArray = ZN from HS.out.2.2.symm]; exact (Blk.new' _ _ _ _ hz0.symm).alloc _
          · exact madeL_len _ _
          · exact (((Below.refl _ X0).alloc (by omega) _).alloc (by simp [hz0]) _).drew
      · go_wp2_with fail
        refine ⟨fun _ => trivial, ?_⟩
        refine wpMixU_one rfl ?_
        go_wp2_with fail
        refine (HM.out.1 _).mono ?_
        rintro e w1 ⟨rfl, rfl⟩
        go_wp2_with fail
        refine ⟨fun _ => trivial, ?_⟩
        refine wpMixU_q (v := .int .i64 2) rfl (fun _ _ _ h => h) trivial ⟨rfl, fun _ _ => by simp [go_sem] <;> decide⟩ ?_
        refine wpMixU_q (v := .agg #[.int .i64 2, .slice (some ⟨w.heap.size + 1, 0, none⟩) 125 125]) rfl (fun _ _ _ h => h) trivial ⟨rfl, fun _ _ => by simp [go_sem]⟩ ?_
        refine wpMixU_one rfl ?_
        go_wp2_with fail
        refine ⟨fun _ => trivial, wpMixU_nil ?_⟩
        go_wp2_with fail
        go_meet
        case rel =>
          refine ⟨_, w.heap.size + 1, rfl, by omega, by omega, by omega, ⟨?_, ?_, ?_, ?_⟩⟩
          · exact Blk.new' _ _ _ _ (by simp [hz0])
          · rw [show RowB _ _ _ = Blk _ _ _ _ from rfl, show ((madeL 3 []).map Value.bool).toArray = ZN from HS.out.2.2.symm]; exact (Blk.new' _ _ _ _ hz0.symm).alloc _
          · exact madeL_len _ _
          · exact (((Below.refl _ X0).alloc (by omega) _).alloc (by simp [hz0]) _).drew
    · go_wp2_with fail
      refine ⟨fun _ => trivial, ?_⟩
      refine wpMixU_two rfl rfl ?_ ?_
      · go_wp2_with fail
        refine (HM.out.1 _).mono ?_
        rintro e w1 ⟨rfl, rfl⟩
        go_wp2_with fail
        refine ⟨fun _ => trivial, ?_⟩
        refine wpMixU_q (v := .int .i64 2) rfl (fun _ _ _ h => h) trivial ⟨rfl, fun _ _ => by simp [go_sem] <;> decide⟩ ?_
        refine wpMixU_one rfl ?_
        go_wp2_with fail
        refine ⟨fun _ => trivial, ?_⟩
        refine wpMixU_q (v := .agg #[.int .i64 2, .slice (some ⟨w.heap.size + 1 + 1, 0, none⟩) 125 125]) rfl (fun _ _ _ h => h) trivial ⟨rfl, fun _ _ => by simp [go_sem]⟩ ?_
        refine wpMixU_one rfl ?_
        go_wp2_with fail
        refine ⟨fun _ => trivial, wpMixU_nil ?_⟩
        go_wp2_with fail
        go_meet
        case rel =>
          refine ⟨_, w.heap.size + 1 + 1, rfl, by omega, by omega, by omega, ⟨?_, ?_, ?_, ?_⟩⟩
          · exact (Blk.new' _ _ _ _ hz0.symm).alloc _
          · rw [show RowB _ _ _ = Blk _ _ _ _ from rfl, show ((madeL 3 []).map Value.bool).toArray = ZN from HS.out.2.2.symm]; exact Blk.new' _ _ _ _ (by simp [hz0])
          · exact madeL_len _ _
          · exact (((Below.refl _ X0).alloc (by omega) _).alloc (by simp [hz0]) _).drew
      · go_wp2_with fail
        refine ⟨fun _ => trivial, ?_⟩
        refine wpMixU_one rfl ?_
        go_wp2_with fail
        refine (HM.out.1 _).mono ?_
        rintro e w1 ⟨rfl, rfl⟩
        go_wp2_with fail
        refine ⟨fun _ => trivial, ?_⟩
        refine wpMixU_q (v := .int .i64 2) rfl (fun _ _ _ h => h) trivial ⟨rfl, fun _ _ => by simp [go_sem] <;> decide⟩ ?_
        refine wpMixU_q (v := .agg #[.int .i64 2, .slice (some ⟨w.heap.size + 1 + 1, 0, none⟩) 125 125]) rfl (fun _ _ _ h => h) trivial ⟨rfl, fun _ _ => by simp [go_sem]⟩ ?_
        refine wpMixU_one rfl ?_
        go_wp2_with fail
        refine ⟨fun _ => trivial, wpMixU_nil ?_⟩
        go_wp2_with fail
        go_meet
        case rel =>
          refine ⟨_, w.heap.size + 1 + 1, rfl, by omega, by omega, by omega, ⟨?_, ?_, ?_, ?_⟩⟩
          · exact (Blk.new' _ _ _ _ hz0.symm).alloc _
          · rw [show RowB _ _ _ = Blk _ _ _ _ from rfl, show ((madeL 3 []).map Value.bool).toArray = ZN from HS.out.2.2.symm]; exact Blk.new' _ _ _ _ (by simp [hz0])
          · exact madeL_len _ _
          · exact (((Below.refl _ X0).alloc (by omega) _).alloc (by simp [hz0]) _).drew
  case rest =>
    obtain ⟨gf, g, rfl, hne, hgf, hg, hI⟩ := hcut
    obtain ⟨V, rfl⟩ : ∃ V, V = wc := ⟨_, rfl⟩
    have HV := hide hI
    clear hI hmN
    go_wp2_with fail
    go_loopw [8] (fun iv wr => ∃ (k : Nat), k ≤ nl ∧ iv = .int .i64 k ∧ MdS 2 125 (w.heap.size + 1) X0 wr gf g (madeL 3 (madeK 3 (ns.take k)))) (fun iv _ => nl - (intOf iv).toNat)
    case atStart => exact ⟨0, by omega, rfl, HV.out⟩
    case round =>
      obtain ⟨V0, rfl⟩ : ∃ V0, V0 = wr := ⟨_, rfl⟩
      obtain ⟨k, hk, rfl, hI⟩ := hrel
      have HI := hide hI
      clear hI
      by_cases hkl : ¬ k < nl
      · have i1 : ¬ (k : Int) < (nl : Int) := by omega
        have htk : ns.take k = ns := List.take_of_length_le (by rw [← HS.out.2.1]; omega)
        obtain ⟨c0, c1⟩ : V0.cell? ⟨gf, 0, none⟩ = some (.int .i64 2) ∧ V0.cell? ⟨gf, 1, none⟩ = some (.slice (some ⟨g, 0, none⟩) 125 125) := ⟨HI.out.box.cell 0, HI.out.box.cell 1⟩
        have hrr := H0.out.2.below HI.out.bel (by omega)
        obtain ⟨r0, r1⟩ := (show V0.cell? ⟨w.heap.size, 0, none⟩ = some (.int .i64 0) ∧ V0.cell? ⟨w.heap.size, 1, none⟩ = some (.slice none 0 0) from ⟨hrr.cell 0, hrr.cell 1⟩)
        have f0 := hrr.frozen 0
        have f1 := hrr.frozen 1
        have HR := hide (And.intro hrr htk)
        clear hrr htk
        go_wp2_with fail
        refine fld_ret7 (L := 2) (g := g) (N := 125) (w := w) (V := V0) rfl HR.out.1 ?_ rfl ?_
        · intro Z z0 z1
          simp [results, Try.results16, go_sem, z0, z1]
        · intro W' hW'
          refine ⟨g, rfl, ?_, by omega, ?_⟩
          · rw [hW', ← HR.out.2]; exact (HI.out.row.far (p := ⟨w.heap.size, 0, none⟩) (by dsimp only; omega) _).far (p := ⟨w.heap.size, 1, none⟩) (by dsimp only; omega) _
          · rw [hW']
            exact ((H0.out.1.trans (HI.out.bel.mono (by omega))).setCell (by dsimp only; omega) _).setCell (by dsimp only; omega) _
      · have i1 : (k : Int) < (nl : Int) := by omega
        obtain ⟨q, hq⟩ : ∃ q, ns[k]? = some q := ⟨_, List.getElem?_eq_getElem (by rw [← HS.out.2.1]; omega)⟩
        have hne0 : ns ≠ [] := fun e => by rw [e] at hq; cases hq
        obtain ⟨b, o, hA, hb, g0⟩ := ((((HS.out.1 hne0).below H0.out.1)).below (HI.out.bel.mono (by omega))).num hq
        subst hA
        have hmq := fun W => mod_any q 27 (by omega) (by omega) W
        have hbq := modC_bound q 27 (by omega)
        obtain ⟨x, hx⟩ : ∃ x : Nat, x = (modC q 27).toNat := ⟨_, rfl⟩
        have hx2 : modC q 27 = (x : Int) := by omega
        rw [hx2] at hmq
        have hxl : x < 27 := by omega
        have htk : madeK 3 (ns.take (k + 1)) = madeK 3 (ns.take k) ++ [x] := by
          rw [List.take_add_one, hq]; unfold madeK; rw [List.map_append]; show _ ++ [(modC q 27).toNat] = _; rw [← hx]
        obtain ⟨F, hF⟩ : ∃ F, F = madeL 3 (madeK 3 (ns.take k)) := ⟨_, rfl⟩
        have hF2 : madeL 3 (madeK 3 (ns.take (k + 1))) = F.set (mdN 3 x) true := by rw [htk, madeL_snoc, ← hF]
        rw [← hF] at HI
        have HQ := hide (And.intro hmq hF2)
        clear hmq hbq hx hx2 htk hF hF2 hq hne0
        go_wp2_with fail
        refine (HQ.out.1 _).mono ?_
        rintro e w1 ⟨rfl, rfl⟩
        obtain ⟨V0, rfl⟩ : ∃ X, X = w1 := ⟨_, rfl⟩
        go_upto_region 8 with fail
        obtain ⟨a, ha⟩ : ∃ a, a = x / 3 := ⟨_, rfl⟩
        obtain ⟨b1, hb1⟩ : ∃ b, b = a / 3 := ⟨_, rfl⟩
        obtain ⟨d, hd⟩ : ∃ d, d = a % 3 := ⟨_, rfl⟩
        obtain ⟨e, he⟩ : ∃ e, e = x % 3 := ⟨_, rfl⟩
        obtain ⟨j, hj⟩ : ∃ j, j = mdN 3 x := ⟨_, rfl⟩
        have hj2 : ((b1 + 1) * 5 + d + 1) * 5 + e + 1 = j := by rw [hj, hb1, hd, he, ha]; unfold mdN; omega
        have hal : a < 9 ∧ b1 < 3 ∧ d < 3 ∧ e < 3 := by omega
        have k1 : IntKind.i64.wrap ((x : Int) / 3) = (a : Int) := by rw [ha]; exact (IntWalk.i64_in _ (by omega)).trans (by omega)
        have k2 : IntKind.i64.wrap ((a : Int) / 3) = (b1 : Int) := by rw [hb1]; exact (IntWalk.i64_in _ (by omega)).trans (by omega)
        have k3 : (a : Int).tmod 3 = (d : Int) := by rw [hd, Int.tmod_eq_emod_of_nonneg (by omega)]; omega
        have k4 : (x : Int).tmod 3 = (e : Int) := by rw [he, Int.tmod_eq_emod_of_nonneg (by omega)]; omega
        obtain ⟨s1, hs1⟩ : ∃ s1, s1 = b1 + 1 := ⟨_, rfl⟩
        obtain ⟨s2, hs2⟩ : ∃ s2, s2 = s1 * 5 := ⟨_, rfl⟩
        obtain ⟨s3, hs3⟩ : ∃ s3, s3 = s2 + d := ⟨_, rfl⟩
        obtain ⟨s4, hs4⟩ : ∃ s4, s4 = s3 + 1 := ⟨_, rfl⟩
        obtain ⟨s5, hs5⟩ : ∃ s5, s5 = s4 * 5 := ⟨_, rfl⟩
        obtain ⟨s6, hs6⟩ : ∃ s6, s6 = s5 + e := ⟨_, rfl⟩
        have hjs : j = s6 + 1 := by omega
        have hbd : s6 < 100000 ∧ s5 < 100000 ∧ s4 < 100000 ∧ s3 < 100000 ∧ s2 < 100000 ∧ s1 < 100000 := by omega
        have k5 : IntKind.i64.wrap ((b1 : Int) + 1) = (s1 : Int) := (IntWalk.i64_in _ (by omega)).trans (by omega)
        have k6 : IntKind.i64.wrap ((s1 : Int) * 5) = (s2 : Int) := (IntWalk.i64_in _ (by omega)).trans (by omega)
        have k7 : IntKind.i64.wrap ((s2 : Int) + (d : Int)) = (s3 : Int) := (IntWalk.i64_in _ (by omega)).trans (by omega)
        have k8 : IntKind.i64.wrap ((s3 : Int) + 1) = (s4 : Int) := (IntWalk.i64_in _ (by omega)).trans (by omega)
        have k9 : IntKind.i64.wrap ((s4 : Int) * 5) = (s5 : Int) := (IntWalk.i64_in _ (by omega)).trans (by omega)
        have k10 : IntKind.i64.wrap ((s5 : Int) + (e : Int)) = (s6 : Int) := (IntWalk.i64_in _ (by omega)).trans (by omega)
        have k11 : IntKind.i64.wrap ((s6 : Int) + 1) = (j : Int) := (IntWalk.i64_in _ (by omega)).trans (by omega)
        have hjN : j < 125 := by rw [hj]; exact (mdN_parts (m := 3) (by omega) hxl).1
        rw [← hj] at HQ
        clear hj ha hb1 hd he hal hs1 hs2 hs3 hs4 hs5 hs6 hjs hbd hj2
        have c1 : V0.drew.cell? ⟨gf, 1, none⟩ = some (.slice (some ⟨g, 0, none⟩) 125 125) := HI.out.box.cell 1
        have c2 : V0.drew.cell? ⟨g, j, none⟩ = some (.bool (F[j]'(by rw [HI.out.len]; exact hjN))) := HI.out.row.cell (List.getElem?_eq_getElem _)
        have f2 := HI.out.row.frozen j
        have hjI : (j : Int) < 125 := by omega
        have HZ := hide (HI.out.put hne hg j)
        go_still_tail 25, (by kernel_rfl)
        repeat still_step
        change wpList _ _ _ _ _ V0.drew
        go_wp2_with fail
        go_roundw
        case rel => exact ⟨k + 1, by omega, by go_num, by rw [HQ.out.2]; exact HZ.out⟩
        case measure => simp [intOf]; omega
set_option maxRecDepth 100000 in
set_option maxHeartbeats 32000000 in
theorem made7_3 (n : Int) (hn : modC n 3 = 2) (A : Option Addr) (c : Nat) (ns : List Int) (w : World) (hs : ns ≠ [] → Sl encZ 1 w w.heap.size A ns) (_hl : ns.length ≤ 9223372036854775807) :
    Calls Try.prog 16 #[.int .i64 n, .slice A ns.length c] w fun e w' => ∃ g, e = .returned (.agg #[.int .i64 3, .slice (some ⟨g, 0, none⟩) 729 729]) ∧ RowB w' g (madeL 7 (madeK 7 ns)) ∧ w.heap.size ≤ g ∧ Below w.heap.size w w' := by
  obtain ⟨nl, hnl⟩ : ∃ nl, nl = ns.length := ⟨_, rfl⟩
  rw [← hnl] at _hl ⊢
  have hmn : ∀ W : World, Calls Try.prog 21 #[.int .i64 n, .int .i64 3] W fun e w' => e = .returned (.int .i64 2) ∧ w' = W := fun W => by rw [← hn]; exact mod_any n 3 (by omega) (by omega) W
  have hsd : ∀ W : World, Calls Try.prog 20 #[.int .i64 3] W fun e w' => e = .returned (.int .i64 9) ∧ w' = W := fun W => side7_any 3 W
  have hmN : ∀ W : World, (Instr.makeSlice 30 (.int .i64 729) (.int .i64 729)).run Try.prog W = .ok (.slice (some ⟨W.heap.size, 0, none⟩) 729 729) (W.alloc (.cells ((List.replicate 729 false).map Value.bool).toArray 4)) := mk_bl7 729 (by omega)
  obtain ⟨ZN, hZN⟩ : ∃ Z, Z = ((List.replicate 729 false).map Value.bool).toArray := ⟨_, rfl⟩
  rw [← hZN] at hmN
  have HS := hide (And.intro hs (And.intro hnl hZN))
  have HM := hide (And.intro hmn hsd)
  clear hs hnl hZN hmn hsd hn
  go_enter Try.func16, Try.ntmps16
  go_upto_region 1 with fail
  obtain ⟨X0, hX0⟩ : ∃ X, X = w.alloc (.cells #[.int .i64 0, .slice none 0 0] 32) := ⟨_, rfl⟩
  rw [← hX0]
  have hB0 : Below w.heap.size w X0 := by rw [hX0]; exact (Below.refl _ w).alloc (Nat.le_refl _) _
  have hr0 : Blk X0 w.heap.size 32 #[.int .i64 0, .slice none 0 0] := by rw [hX0]; exact Blk.new _ _ _
  have hz0 : X0.heap.size = w.heap.size + 1 := by rw [hX0]; simp
  have H0 := hide (And.intro hB0 hr0)
  clear hX0 hB0 hr0
  go_wp2_with fail
  refine (HM.out.1 _).mono ?_
  rintro e w1 ⟨rfl, rfl⟩
  go_wp2_with fail
  refine (HM.out.2 _).mono ?_
  rintro e w1 ⟨rfl, rfl⟩
  obtain ⟨X0, rfl⟩ : ∃ X, X = w1 := ⟨_, rfl⟩
  go_upto_region 2 with fail
  go_cut [6] (fun p wx => ∃ gf g, p = .pointer (some ⟨gf, 0, none⟩) ∧ gf ≠ g ∧ w.heap.size + 1 ≤ gf ∧ w.heap.size + 1 ≤ g ∧ MdS 3 729 (w.heap.size + 1) X0 wx gf g (madeL 7 []))
  case first =>
    refine wp_region_tree3 (fun _ => True) [0, 3, 4, 5, 6, 7, 2, 9] (.q 0 (.q 3 (.q 4 (.q 5 (.q 6 (.q 7 (.three 1 (.q 2 (.two 8 (.q 9 (.one 10 (.one 11 .nil))) 10 (.one 8 (.q 9 (.one 11 .nil))))) 8 (.two 1 (.q 2 (.q 9 (.one 10 (.one 11 .nil)))) 10 (.one 1 (.q 2 (.q 9 (.one 11 .nil))))) 10 (.two 1 (.q 2 (.one 8 (.q 9 (.one 11 .nil)))) 8 (.one 1 (.q 2 (.q 9 (.one 11 .nil)))))))))))) mixed_ok (by kernel_rfl) ?_
    refine wpMixU_q (v := .int .i64 n) rfl (fun _ _ _ h => h) trivial ⟨rfl, fun _ _ => by simp [go_sem] <;> decide⟩ ?_
    refine wpMixU_q (v := .int .i64 9) rfl (fun _ _ _ h => h) trivial ⟨rfl, fun _ _ => by simp [go_sem] <;> decide⟩ ?_
    refine wpMixU_q (v := .int .i64 9) rfl (fun _ _ _ h => h) trivial ⟨rfl, fun _ _ => by simp [go_sem] <;> decide⟩ ?_
    refine wpMixU_q (v := .int .i64 81) rfl (fun _ _ _ h => h) trivial ⟨rfl, fun _ _ => by simp [go_sem] <;> decide⟩ ?_
    refine wpMixU_q (v := .int .i64 9) rfl (fun _ _ _ h => h) trivial ⟨rfl, fun _ _ => by simp [go_sem] <;> decide⟩ ?_
    refine wpMixU_q (v := .int .i64 729) rfl (fun _ _ _ h => h) trivial ⟨rfl, fun _ _ => by simp [go_sem] <;> decide⟩ ?_
    refine wpMixU_three rfl rfl rfl ?_ ?_ ?_
    · go_wp2_with fail
      refine (HM.out.1 _).mono ?_
      rintro e w1 ⟨rfl, rfl⟩
      go_wp2_with fail
      refine ⟨fun _ => trivial, ?_⟩
      refine wpMixU_q (v := .int .i64 3) rfl (fun _ _ _ h => h) trivial ⟨rfl, fun _ _ => by simp [go_sem] <;> decide⟩ ?_
      refine wpMixU_two rfl rfl ?_ ?_
      · go_wp2_with fail
        refine ⟨fun _ => trivial, ?_⟩
        refine wpMixU_q (v := .agg #[.int .i64 3, .slice (some ⟨w.heap.size + 1, 0, none⟩) 729 729]) rfl (fun _ _ _ h => h) trivial ⟨rfl, fun _ _ => by simp [go_sem]⟩ ?_
        refine wpMixU_one rfl ?_
        go_wp2_with fail
        refine ⟨fun _ => trivial, ?_⟩
        refine wpMixU_one rfl ?_
        go_wp2_with fail
        refine ⟨fun _ => trivial, wpMixU_nil ?_⟩
        go_wp2_with fail
        go_meet
        case rel =>
          refine ⟨_, w.heap.size + 1, rfl, by omega, by omega, by omega, ⟨?_, ?_, ?_, ?_⟩⟩
          · exact Blk.new' _ _ _ _ (by simp [hz0])
          · rw [show RowB _ _ _ = Blk _ _ _ _ from rfl, show ((madeL 7 []).map Value.bool).toArray = ZN from HS.out.2.2.symm]; exact (Blk.new' _ _ _ _ hz0.symm).alloc _
          · exact madeL_len _ _
          · exact (((Below.refl _ X0).alloc (by omega) _).alloc (by simp [hz0]) _).drew
      · go_wp2_with fail
        refine ⟨fun _ => trivial, ?_⟩
        refine wpMixU_one rfl ?_
        go_wp2_with fail
        refine ⟨fun _ => trivial, ?_⟩
        refine wpMixU_q (v := .agg #[.int .i64 3, .slice (some ⟨w.heap.size + 1 + 1, 0, none⟩) 729 729]) rfl (fun _ _ _ h => h) trivial ⟨rfl, fun _ _ => by simp [go_sem]⟩ ?_
        refine wpMixU_one rfl ?_
        go_wp2_with fail
        refine ⟨fun _ => trivial, wpMixU_nil ?_⟩
        go_wp2_with fail
        go_meet
        case rel =>
          refine ⟨_, w.heap.size + 1 + 1, rfl, by omega, by omega, by omega, ⟨?_, ?_, ?_, ?_⟩⟩
          · exact (Blk.new' _ _ _ _ hz0.symm).alloc _
          · rw [show RowB _ _ _ = Blk _ _ _ _ from rfl, show ((madeL 7 []).map Value.bool).toArray = ZN from HS.out.2.2.symm]; exact Blk.new' _ _ _ _ (by simp [hz0])
          · exact madeL_len _ _
          · exact (((Below.refl _ X0).alloc (by omega) _).alloc (by simp [hz0]) _).drew
    · go_wp2_with fail
      refine ⟨fun _ => trivial, ?_⟩
      refine wpMixU_two rfl rfl ?_ ?_
      · go_wp2_with fail
        refine (HM.out.1 _).mono ?_
        rintro e w1 ⟨rfl, rfl⟩
        go_wp2_with fail
        refine ⟨fun _ => trivial, ?_⟩
        refine wpMixU_q (v := .int .i64 3) rfl (fun _ _ _ h => h) trivial ⟨rfl, fun _ _ => by simp [go_sem] <;> decide⟩ ?_
        refine wpMixU_q (v := .agg #[.int .i64 3, .slice (some ⟨w.heap.size + 1, 0, none⟩) 729 729]) rfl (fun _ _ _ h => h) trivial ⟨rfl, fun _ _ => by simp [go_sem]⟩ ?_
        refine wpMixU_one rfl ?_
        go_wp2_with fail
        refine ⟨fun _ => trivial, ?_⟩
        refine wpMixU_one rfl ?_
        go_wp2_with fail
        refine ⟨fun _ => trivial, wpMixU_nil ?_⟩
        go_wp2_with fail
        go_meet
        case rel =>
          refine ⟨_, w.heap.size + 1, rfl, by omega, by omega, by omega, ⟨?_, ?_, ?_, ?_⟩⟩
          · exact Blk.new' _ _ _ _ (by simp [hz0])
          · rw [show RowB _ _ _ = Blk _ _ _ _ from rfl, show ((madeL 7 []).map Value.bool).toArray = ZN from HS.out.2.2.symm]; exact (Blk.new' _ _ _ _ hz0.symm).alloc _
          · exact madeL_len _ _
          · exact (((Below.refl _ X0).alloc (by omega) _).alloc (by simp [hz0]) _).drew
      · go_wp2_with fail
        refine ⟨fun _ => trivial, ?_⟩
        refine wpMixU_one rfl ?_
        go_wp2_with fail
        refine (HM.out.1 _).mono ?_
        rintro e w1 ⟨rfl, rfl⟩
        go_wp2_with fail
        refine ⟨fun _ => trivial, ?_⟩
        refine wpMixU_q (v := .int .i64 3) rfl (fun _ _ _ h => h) trivial ⟨rfl, fun _ _ => by simp [go_sem] <;> decide⟩ ?_
        refine wpMixU_q (v := .agg #[.int .i64 3, .slice (some ⟨w.heap.size + 1, 0, none⟩) 729 729]) rfl (fun _ _ _ h => h) trivial ⟨rfl, fun _ _ => by simp [go_sem]⟩ ?_
        refine wpMixU_one rfl ?_
        go_wp2_with fail
        refine ⟨fun _ => trivial, wpMixU_nil ?_⟩
        go_wp2_with fail
        go_meet
        case rel =>
          refine ⟨_, w.heap.size + 1, rfl, by omega, by omega, by omega, ⟨?_, ?_, ?_, ?_⟩⟩
          · exact Blk.new' _ _ _ _ (by simp [hz0])
          · rw [show RowB _ _ _ = Blk _ _ _ _ from rfl, show ((madeL 7 []).map Value.bool).toArray = ZN from HS.out.2.2.symm]; exact (Blk.new' _ _ _ _ hz0.symm).alloc _
          · exact madeL_len _ _
          · exact (((Below.refl _ X0).alloc (by omega) _).alloc (by simp [hz0]) _).drew
    · go_wp2_with fail
      refine ⟨fun _ => trivial, ?_⟩
      refine wpMixU_two rfl rfl ?_ ?_
      · go_wp2_with fail
        refine (HM.out.1 _).mono ?_
        rintro e w1 ⟨rfl, rfl⟩
        go_wp2_with fail
        refine ⟨fun _ => trivial, ?_⟩
        refine wpMixU_q (v := .int .i64 3) rfl (fun _ _ _ h => h) trivial ⟨rfl, fun _ _ => by simp [go_sem] <;> decide⟩ ?_
        refine wpMixU_one rfl ?_
        go_wp2_with fail
        refine ⟨fun _ => trivial, ?_⟩
        refine wpMixU_q (v := .agg #[.int .i64 3, .slice (some ⟨w.heap.size + 1 + 1, 0, none⟩) 729 729]) rfl (fun _ _ _ h => h) trivial ⟨rfl, fun _ _ => by simp [go_sem]⟩ ?_
        refine wpMixU_one rfl ?_
        go_wp2_with fail
        refine ⟨fun _ => trivial, wpMixU_nil ?_⟩
        go_wp2_with fail
        go_meet
        case rel =>
          refine ⟨_, w.heap.size + 1 + 1, rfl, by omega, by omega, by omega, ⟨?_, ?_, ?_, ?_⟩⟩
          · exact (Blk.new' _ _ _ _ hz0.symm).alloc _
          · rw [show RowB _ _ _ = Blk _ _ _ _ from rfl, show ((madeL 7 []).map Value.bool).toArray = ZN from HS.out.2.2.symm]; exact Blk.new' _ _ _ _ (by simp [hz0])
          · exact madeL_len _ _
          · exact (((Below.refl _ X0).alloc (by omega) _).alloc (by simp [hz0]) _).drew
      · go_wp2_with fail
        refine ⟨fun _ => trivial, ?_⟩
        refine wpMixU_one rfl ?_
        go_wp2_with fail
        refine (HM.out.1 _).mono ?_
        rintro e w1 ⟨rfl, rfl⟩
        go_wp2_with fail
        refine ⟨fun _ => trivial, ?_⟩
        refine wpMixU_q (v := .int .i64 3) rfl (fun _ _ _ h => h) trivial ⟨rfl, fun _ _ => by simp [go_sem] <;> decide⟩ ?_
        refine wpMixU_q (v := .agg #[.int .i64 3, .slice (some ⟨w.heap.size + 1 + 1, 0, none⟩) 729 729]) rfl (fun _ _ _ h => h) trivial ⟨rfl, fun _ _ => by simp [go_sem]⟩ ?_
        refine wpMixU_one rfl ?_
        go_wp2_with fail
        refine ⟨fun _ => trivial, wpMixU_nil ?_⟩
        go_wp2_with fail
        go_meet
        case rel =>
          refine ⟨_, w.heap.size + 1 + 1, rfl, by omega, by omega, by omega, ⟨?_, ?_, ?_, ?_⟩⟩
          · exact (Blk.new' _ _ _ _ hz0.symm).alloc _
          · rw [show RowB _ _ _ = Blk _ _ _ _ from rfl, show ((madeL 7 []).map Value.bool).toArray = ZN from HS.out.2.2.symm]; exact Blk.new' _ _ _ _ (by simp [hz0])
          · exact madeL_len _ _
          · exact (((Below.refl _ X0).alloc (by omega) _).alloc (by simp [hz0]) _).drew
  case rest =>
    obtain ⟨gf, g, rfl, hne, hgf, hg, hI⟩ := hcut
    obtain ⟨V, rfl⟩ : ∃ V, V = wc := ⟨_, rfl⟩
    have HV := hide hI
    clear hI hmN
    go_wp2_with fail
    go_loopw [8] (fun iv wr => ∃ (k : Nat), k ≤ nl ∧ iv = .int .i64 k ∧ MdS 3 729 (w.heap.size + 1) X0 wr gf g (madeL 7 (madeK 7 (ns.take k)))) (fun iv _ => nl - (intOf iv).toNat)
    case atStart => exact ⟨0, by omega, rfl, HV.out⟩
    case round =>
      obtain ⟨V0, rfl⟩ : ∃ V0, V0 = wr := ⟨_, rfl⟩
      obtain ⟨k, hk, rfl, hI⟩ := hrel
      have HI := hide hI
      clear hI
      by_cases hkl : ¬ k < nl
      · have i1 : ¬ (k : Int) < (nl : Int) := by omega
        have htk : ns.take k = ns := List.take_of_length_le (by rw [← HS.out.2.1]; omega)
        obtain ⟨c0, c1⟩ : V0.cell? ⟨gf, 0, none⟩ = some (.int .i64 3) ∧ V0.cell? ⟨gf, 1, none⟩ = some (.slice (some ⟨g, 0, none⟩) 729 729) := ⟨HI.out.box.cell 0, HI.out.box.cell 1⟩
        have hrr := H0.out.2.below HI.out.bel (by omega)
        obtain ⟨r0, r1⟩ := (show V0.cell? ⟨w.heap.size, 0, none⟩ = some (.int .i64 0) ∧ V0.cell? ⟨w.heap.size, 1, none⟩ = some (.slice none 0 0) from ⟨hrr.cell 0, hrr.cell 1⟩)
        have f0 := hrr.frozen 0
        have f1 := hrr.frozen 1
        have HR := hide (And.intro hrr htk)
        clear hrr htk
        go_wp2_with fail
        refine fld_ret7 (L := 3) (g := g) (N := 729) (w := w) (V := V0) rfl HR.out.1 ?_ rfl ?_
        · intro Z z0 z1
          simp [results, Try.results16, go_sem, z0, z1]
        · intro W' hW'
          refine ⟨g, rfl, ?_, by omega, ?_⟩
          · rw [hW', ← HR.out.2]; exact (HI.out.row.far (p := ⟨w.heap.size, 0, none⟩) (by dsimp only; omega) _).far (p := ⟨w.heap.size, 1, none⟩) (by dsimp only; omega) _
          · rw [hW']
            exact ((H0.out.1.trans (HI.out.bel.mono (by omega))).setCell (by dsimp only; omega) _).setCell (by dsimp only; omega) _
      · have i1 : (k : Int) < (nl : Int) := by omega
        obtain ⟨q, hq⟩ : ∃ q, ns[k]? = some q := ⟨_, List.getElem?_eq_getElem (by rw [← HS.out.2.1]; omega)⟩
        have hne0 : ns ≠ [] := fun e => by rw [e] at hq; cases hq
        obtain ⟨b, o, hA, hb, g0⟩ := ((((HS.out.1 hne0).below H0.out.1)).below (HI.out.bel.mono (by omega))).num hq
        subst hA
        have hmq := fun W => mod_any q 343 (by omega) (by omega) W
        have hbq := modC_bound q 343 (by omega)
        obtain ⟨x, hx⟩ : ∃ x : Nat, x = (modC q 343).toNat := ⟨_, rfl⟩
        have hx2 : modC q 343 = (x : Int) := by omega
        rw [hx2] at hmq
        have hxl : x < 343 := by omega
        have htk : madeK 7 (ns.take (k + 1)) = madeK 7 (ns.take k) ++ [x] := by
          rw [List.take_add_one, hq]; unfold madeK; rw [List.map_append]; show _ ++ [(modC q 343).toNat] = _; rw [← hx]
        obtain ⟨F, hF⟩ : ∃ F, F = madeL 7 (madeK 7 (ns.take k)) := ⟨_, rfl⟩
        have hF2 : madeL 7 (madeK 7 (ns.take (k + 1))) = F.set (mdN 7 x) true := by rw [htk, madeL_snoc, ← hF]
        rw [← hF] at HI
        have HQ := hide (And.intro hmq hF2)
        clear hmq hbq hx hx2 htk hF hF2 hq hne0
        go_wp2_with fail
        refine (HQ.out.1 _).mono ?_
        rintro e w1 ⟨rfl, rfl⟩
        obtain ⟨V0, rfl⟩ : ∃ X, X = w1 := ⟨_, rfl⟩
        go_upto_region 8 with fail
        obtain ⟨a, ha⟩ : ∃ a, a = x / 7 := ⟨_, rfl⟩
        obtain ⟨b1, hb1⟩ : ∃ b, b = a / 7 := ⟨_, rfl⟩
        obtain ⟨d, hd⟩ : ∃ d, d = a % 7 := ⟨_, rfl⟩
        obtain ⟨e, he⟩ : ∃ e, e = x % 7 := ⟨_, rfl⟩
        obtain ⟨j, hj⟩ : ∃ j, j = mdN 7 x := ⟨_, rfl⟩
        have hj2 : ((b1 + 1) * 9 + d + 1) * 9 + e + 1 = j := by rw [hj, hb1, hd, he, ha]; unfold mdN; omega
        have hal : a < 49 ∧ b1 < 7 ∧ d < 7 ∧ e < 7 := by omega
        have k1 : IntKind.i64.wrap ((x : Int) / 7) = (a : Int) := by rw [ha]; exact (IntWalk.i64_in _ (by omega)).trans (by omega)
        have k2 : IntKind.i64.wrap ((a : Int) / 7) = (b1 : Int) := by rw [hb1]; exact (IntWalk.i64_in _ (by omega)).trans (by omega)
        have k3 : (a : Int).tmod 7 = (d : Int) := by rw [hd, Int.tmod_eq_emod_of_nonneg (by omega)]; omega
        have k4 : (x : Int).tmod 7 = (e : Int) := by rw [he, Int.tmod_eq_emod_of_nonneg (by omega)]; omega
        obtain ⟨s1, hs1⟩ : ∃ s1, s1 = b1 + 1 := ⟨_, rfl⟩
        obtain ⟨s2, hs2⟩ : ∃ s2, s2 = s1 * 9 := ⟨_, rfl⟩
        obtain ⟨s3, hs3⟩ : ∃ s3, s3 = s2 + d := ⟨_, rfl⟩
        obtain ⟨s4, hs4⟩ : ∃ s4, s4 = s3 + 1 := ⟨_, rfl⟩
        obtain ⟨s5, hs5⟩ : ∃ s5, s5 = s4 * 9 := ⟨_, rfl⟩
        obtain ⟨s6, hs6⟩ : ∃ s6, s6 = s5 + e := ⟨_, rfl⟩
        have hjs : j = s6 + 1 := by omega
        have hbd : s6 < 100000 ∧ s5 < 100000 ∧ s4 < 100000 ∧ s3 < 100000 ∧ s2 < 100000 ∧ s1 < 100000 := by omega
        have k5 : IntKind.i64.wrap ((b1 : Int) + 1) = (s1 : Int) := (IntWalk.i64_in _ (by omega)).trans (by omega)
        have k6 : IntKind.i64.wrap ((s1 : Int) * 9) = (s2 : Int) := (IntWalk.i64_in _ (by omega)).trans (by omega)
        have k7 : IntKind.i64.wrap ((s2 : Int) + (d : Int)) = (s3 : Int) := (IntWalk.i64_in _ (by omega)).trans (by omega)
        have k8 : IntKind.i64.wrap ((s3 : Int) + 1) = (s4 : Int) := (IntWalk.i64_in _ (by omega)).trans (by omega)
        have k9 : IntKind.i64.wrap ((s4 : Int) * 9) = (s5 : Int) := (IntWalk.i64_in _ (by omega)).trans (by omega)
        have k10 : IntKind.i64.wrap ((s5 : Int) + (e : Int)) = (s6 : Int) := (IntWalk.i64_in _ (by omega)).trans (by omega)
        have k11 : IntKind.i64.wrap ((s6 : Int) + 1) = (j : Int) := (IntWalk.i64_in _ (by omega)).trans (by omega)
        have hjN : j < 729 := by rw [hj]; exact (mdN_parts (m := 7) (by omega) hxl).1
        rw [← hj] at HQ
        clear hj ha hb1 hd he hal hs1 hs2 hs3 hs4 hs5 hs6 hjs hbd hj2
        have c1 : V0.drew.cell? ⟨gf, 1, none⟩ = some (.slice (some ⟨g, 0, none⟩) 729 729) := HI.out.box.cell 1
        have c2 : V0.drew.cell? ⟨g, j, none⟩ = some (.bool (F[j]'(by rw [HI.out.len]; exact hjN))) := HI.out.row.cell (List.getElem?_eq_getElem _)
        have f2 := HI.out.row.frozen j
        have hjI : (j : Int) < 729 := by omega
        have HZ := hide (HI.out.put hne hg j)
        go_still_tail 25, (by kernel_rfl)
        repeat still_step
        change wpList _ _ _ _ _ V0.drew
        go_wp2_with fail
        go_roundw
        case rel => exact ⟨k + 1, by omega, by go_num, by rw [HQ.out.2]; exact HZ.out⟩
        case measure => simp [intOf]; omega
theorem made7_any (n : Int) (A : Option Addr) (c : Nat) (ns : List Int) (w : World) (hs : ns ≠ [] → Sl encZ 1 w w.heap.size A ns) (hl : ns.length ≤ 9223372036854775807) :
    Calls Try.prog 16 #[.int .i64 n, .slice A ns.length c] w fun e w' => ∃ g F, e = .returned (.agg #[.int .i64 (levP n : Nat), .slice (some ⟨g, 0, none⟩) F.length F.length]) ∧ RowB w' g F ∧ w.heap.size ≤ g ∧ outL (2 ^ levP n) F ∧ Below w.heap.size w w' := by
  have hb := modC_bound n 3 (by omega)
  have hc : modC n 3 = 0 ∨ modC n 3 = 1 ∨ modC n 3 = 2 := by omega
  rcases hc with h | h | h
  · have hl1 : levP n = 1 := by unfold levP; rw [h]; rfl
    rw [hl1]
    refine (made7_1 n h A c ns w hs hl).mono ?_
    rintro e w' ⟨g, rfl, hr, hg, hB⟩
    exact ⟨g, madeL 1 (madeK 1 ns), by rw [madeL_len]; rfl, hr, hg, made_out (by omega) _ (madeK_lt (by omega) ns), hB⟩
  · have hl1 : levP n = 2 := by unfold levP; rw [h]; rfl
    rw [hl1]
    refine (made7_2 n h A c ns w hs hl).mono ?_
    rintro e w' ⟨g, rfl, hr, hg, hB⟩
    exact ⟨g, madeL 3 (madeK 3 ns), by rw [madeL_len]; rfl, hr, hg, made_out (by omega) _ (madeK_lt (by omega) ns), hB⟩
  · have hl1 : levP n = 3 := by unfold levP; rw [h]; rfl
    rw [hl1]
    refine (made7_3 n h A c ns w hs hl).mono ?_
    rintro e w' ⟨g, rfl, hr, hg, hB⟩
    exact ⟨g, madeL 7 (madeK 7 ns), by rw [madeL_len]; rfl, hr, hg, made_out (by omega) _ (madeK_lt (by omega) ns), hB⟩
end Go.Proofs.Ytdpgohpbannfnaa
