/- ref08.Field at level 2 (printed by mk_Field.py). -/
import Derived.Test.YtfljcgehhnmamaaCB37
namespace Go.Proofs.Ytfljcgehhnmamaa
open Go.RowKit Go.Sort
set_option maxRecDepth 100000 in
set_option maxHeartbeats 32000000 in
theorem field_2 (A : Option Addr) (c : Nat) (ns : List Int) (w : World) (hs : ns ≠ [] → Sl encZ 1 w w.heap.size A ns) (hf : ∀ x ∈ ns, fits x) (_hl : ns.length ≤ 9223372036854775807) :
    Calls Try.prog 23 #[.int .i64 2, .slice A ns.length c] w fun e w' => ∃ g F, e = .returned (.agg #[.int .i64 2, .slice (some ⟨g, 0, none⟩) 125 125]) ∧ Blk w' g 4 (F.map Value.bool).toArray ∧ w.heap.size ≤ g ∧ F.length = 125 ∧ okF F 4 125 = true ∧ Below w.heap.size w w' := by
  obtain ⟨nl, hnl⟩ : ∃ nl, nl = ns.length := ⟨_, rfl⟩
  rw [← hnl] at _hl ⊢
  have hmN : ∀ W : World, (Instr.makeSlice 24 (.int .i64 125) (.int .i64 125)).run Try.prog W = .ok (.slice (some ⟨W.heap.size, 0, none⟩) 125 125) (W.alloc (.cells ((List.replicate 125 false).map Value.bool).toArray 4)) := mk_bl 125 (by omega)
  obtain ⟨ZN, hZN⟩ : ∃ Z, Z = ((List.replicate 125 false).map Value.bool).toArray := ⟨_, rfl⟩
  rw [← hZN] at hmN
  have HS := hide (And.intro hs (And.intro hf (And.intro hnl hZN)))
  clear hs hf hnl hZN
  go_enter Try.func23, Try.ntmps23
  go_upto_region 1 with fail
  obtain ⟨X0, hX0⟩ : ∃ X, X = w.alloc (.cells #[.int .i64 0, .slice none 0 0] 26) := ⟨_, rfl⟩
  rw [← hX0]
  have hB0 : Below w.heap.size w X0 := by rw [hX0]; exact (Below.refl _ w).alloc (Nat.le_refl _) _
  have hr0 : Blk X0 w.heap.size 26 #[.int .i64 0, .slice none 0 0] := by rw [hX0]; exact Blk.new _ _ _
  have hz0 : X0.heap.size = w.heap.size + 1 := by rw [hX0]; simp
  have H0 := hide (And.intro hB0 hr0)
  clear hX0 hB0 hr0
  go_cut [5] (fun p wx => ∃ gf g, p = .pointer (some ⟨gf, 0, none⟩) ∧ gf ≠ g ∧ w.heap.size + 1 ≤ gf ∧ w.heap.size + 1 ≤ g ∧ FdS 2 125 4 (w.heap.size + 1) X0 wx gf g (List.replicate 125 false))
  case first =>
    refine wp_region_tree (fun _ => True) [0, 1, 2, 3, 4, 5, 6, 7, 8, 9, 10, 11, 13] (.q 0 (.q 1 (.q 2 (.q 3 (.q 4 (.q 5 (.q 6 (.q 7 (.q 8 (.q 9 (.q 10 (.q 11 (.two 12 (.q 13 (.one 14 (.one 15 .nil))) 14 (.one 12 (.q 13 (.one 15 .nil)))))))))))))))) mixed_ok (by kernel_rfl) ?_
    refine wpMixT_q (v := .int .i64 2) rfl (fun _ _ _ h => h) trivial ⟨rfl, fun _ _ => by simp [go_sem] <;> decide⟩ ?_
    refine wpMixT_q (v := .int .i64 2) rfl (fun _ _ _ h => h) trivial ⟨rfl, fun _ _ => by simp [go_sem] <;> decide⟩ ?_
    refine wpMixT_q (v := .int .i64 4) rfl (fun _ _ _ h => h) trivial ⟨rfl, fun _ _ => by simp [go_sem] <;> decide⟩ ?_
    refine wpMixT_q (v := .int .i64 5) rfl (fun _ _ _ h => h) trivial ⟨rfl, fun _ _ => by simp [go_sem] <;> decide⟩ ?_
    refine wpMixT_q (v := .int .i64 2) rfl (fun _ _ _ h => h) trivial ⟨rfl, fun _ _ => by simp [go_sem] <;> decide⟩ ?_
    refine wpMixT_q (v := .int .i64 4) rfl (fun _ _ _ h => h) trivial ⟨rfl, fun _ _ => by simp [go_sem] <;> decide⟩ ?_
    refine wpMixT_q (v := .int .i64 5) rfl (fun _ _ _ h => h) trivial ⟨rfl, fun _ _ => by simp [go_sem] <;> decide⟩ ?_
    refine wpMixT_q (v := .int .i64 25) rfl (fun _ _ _ h => h) trivial ⟨rfl, fun _ _ => by simp [go_sem] <;> decide⟩ ?_
    refine wpMixT_q (v := .int .i64 2) rfl (fun _ _ _ h => h) trivial ⟨rfl, fun _ _ => by simp [go_sem] <;> decide⟩ ?_
    refine wpMixT_q (v := .int .i64 4) rfl (fun _ _ _ h => h) trivial ⟨rfl, fun _ _ => by simp [go_sem] <;> decide⟩ ?_
    refine wpMixT_q (v := .int .i64 5) rfl (fun _ _ _ h => h) trivial ⟨rfl, fun _ _ => by simp [go_sem] <;> decide⟩ ?_
    refine wpMixT_q (v := .int .i64 125) rfl (fun _ _ _ h => h) trivial ⟨rfl, fun _ _ => by simp [go_sem] <;> decide⟩ ?_
    refine wpMixT_two rfl rfl ?_ ?_
    · go_wp2_with fail
      refine ⟨fun _ => trivial, ?_⟩
      refine wpMixT_q (v := .agg #[.int .i64 2, .slice (some ⟨w.heap.size + 1, 0, none⟩) 125 125]) rfl (fun _ _ _ h => h) trivial ⟨rfl, fun _ _ => by simp [go_sem]⟩ ?_
      refine wpMixT_one rfl ?_
      go_wp2_with fail
      refine ⟨fun _ => trivial, ?_⟩
      refine wpMixT_one rfl ?_
      go_wp2_with fail
      refine ⟨fun _ => trivial, wpMixT_nil ?_⟩
      go_wp2_with fail
      go_meet
      case rel =>
        refine ⟨_, w.heap.size + 1, rfl, by omega, by omega, by omega, ⟨⟨?_, ?_⟩, List.length_replicate, okF_none _ _ _, ?_⟩⟩
        · rw [List.length_replicate]; exact Blk.new' _ _ _ _ (by simp [hz0])
        · rw [← HS.out.2.2.2]; exact (Blk.new' _ _ _ _ hz0.symm).alloc _
        · exact (((Below.refl _ X0).alloc (by omega) _).alloc (by simp [hz0]) _).drew
    · go_wp2_with fail
      refine ⟨fun _ => trivial, ?_⟩
      refine wpMixT_one rfl ?_
      go_wp2_with fail
      refine ⟨fun _ => trivial, ?_⟩
      refine wpMixT_q (v := .agg #[.int .i64 2, .slice (some ⟨w.heap.size + 1 + 1, 0, none⟩) 125 125]) rfl (fun _ _ _ h => h) trivial ⟨rfl, fun _ _ => by simp [go_sem]⟩ ?_
      refine wpMixT_one rfl ?_
      go_wp2_with fail
      refine ⟨fun _ => trivial, wpMixT_nil ?_⟩
      go_wp2_with fail
      go_meet
      case rel =>
        refine ⟨_, w.heap.size + 1 + 1, rfl, by omega, by omega, by omega, ⟨⟨?_, ?_⟩, List.length_replicate, okF_none _ _ _, ?_⟩⟩
        · rw [List.length_replicate]; exact (Blk.new' _ _ _ _ hz0.symm).alloc _
        · rw [← HS.out.2.2.2]; exact Blk.new' _ _ _ _ (by simp [hz0])
        · exact (((Below.refl _ X0).alloc (by omega) _).alloc (by simp [hz0]) _).drew
  case rest =>
    obtain ⟨gf, g, rfl, hne, hgf, hg, hI⟩ := hcut
    obtain ⟨V, rfl⟩ : ∃ V, V = wc := ⟨_, rfl⟩
    have HV := hide hI
    clear hI
    go_wp2_with fail
    go_loopw [7] (fun iv wr => ∃ (k : Nat) (F : List Bool), k ≤ 60 ∧ iv = .int .i64 k ∧ FdS 2 125 4 (w.heap.size + 1) X0 wr gf g F) (fun iv _ => 60 - (intOf iv).toNat)
    case atStart => exact ⟨0, _, by omega, rfl, HV.out⟩
    case round =>
      obtain ⟨V0, rfl⟩ : ∃ V0, V0 = wr := ⟨_, rfl⟩
      obtain ⟨k, F, hk, rfl, hI⟩ := hrel
      have HI := hide hI
      clear hI
      by_cases hkl : ¬ k < nl
      · have i1 : ¬ (k : Int) < (nl : Int) := by omega
        have hlen := HI.out.len
        obtain ⟨c0, c1⟩ := HI.out.box.two
        rw [hlen] at c1
        have hrr := H0.out.2.below HI.out.bel (by omega)
        obtain ⟨r0, r1⟩ := (show V0.cell? ⟨w.heap.size, 0, none⟩ = some (.int .i64 0) ∧ V0.cell? ⟨w.heap.size, 1, none⟩ = some (.slice none 0 0) from ⟨hrr.cell 0, hrr.cell 1⟩)
        have f0 := hrr.frozen 0
        have f1 := hrr.frozen 1
        have HR := hide (And.intro hrr hlen)
        clear hlen hrr
        go_wp2_with fail
        refine fld_ret (L := 2) (g := g) (N := 125) (w := w) (V := V0) rfl HR.out.1 ?_ rfl ?_
        · intro Z z0 z1
          simp [results, Try.results23, go_sem, z0, z1]
        · intro W' hW'
          refine ⟨g, rfl, F, ?_, by omega, HR.out.2, by have h := HI.out.ok; exact h, ?_⟩
          · rw [hW']; exact (HI.out.box.row.far (p := ⟨w.heap.size, 0, none⟩) (by dsimp only; omega) _).far (p := ⟨w.heap.size, 1, none⟩) (by dsimp only; omega) _
          · rw [hW']
            exact ((H0.out.1.trans (HI.out.bel.mono (by omega))).setCell (by dsimp only; omega) _).setCell (by dsimp only; omega) _
      · have i1 : (k : Int) < (nl : Int) := by omega
        by_cases hk6 : ¬ k < 60
        · have i1 : (k : Int) < (nl : Int) := by omega
          have i2 : ¬ (k : Int) < 60 := by omega
          have hlen := HI.out.len
          obtain ⟨c0, c1⟩ := HI.out.box.two
          rw [hlen] at c1
          have hrr := H0.out.2.below HI.out.bel (by omega)
          obtain ⟨r0, r1⟩ := (show V0.cell? ⟨w.heap.size, 0, none⟩ = some (.int .i64 0) ∧ V0.cell? ⟨w.heap.size, 1, none⟩ = some (.slice none 0 0) from ⟨hrr.cell 0, hrr.cell 1⟩)
          have f0 := hrr.frozen 0
          have f1 := hrr.frozen 1
          have HR := hide (And.intro hrr hlen)
          clear hlen hrr
          go_wp2_with fail
          refine fld_ret (L := 2) (g := g) (N := 125) (w := w) (V := V0) rfl HR.out.1 ?_ rfl ?_
          · intro Z z0 z1
            simp [results, Try.results23, go_sem, z0, z1]
          · intro W' hW'
            refine ⟨g, rfl, F, ?_, by omega, HR.out.2, by have h := HI.out.ok; exact h, ?_⟩
            · rw [hW']; exact (HI.out.box.row.far (p := ⟨w.heap.size, 0, none⟩) (by dsimp only; omega) _).far (p := ⟨w.heap.size, 1, none⟩) (by dsimp only; omega) _
            · rw [hW']
              exact ((H0.out.1.trans (HI.out.bel.mono (by omega))).setCell (by dsimp only; omega) _).setCell (by dsimp only; omega) _
        · have i2 : (k : Int) < 60 := by omega
          obtain ⟨q, hq⟩ : ∃ q, ns[k]? = some q := ⟨_, List.getElem?_eq_getElem (by rw [← HS.out.2.2.1]; omega)⟩
          have hfq := HS.out.2.1 q (List.mem_of_getElem? hq)
          have hne0 : ns ≠ [] := fun e => by rw [e] at hq; cases hq
          obtain ⟨b, o, hA, hb, hcc⟩ := ((((HS.out.1 hne0).below H0.out.1)).below (HI.out.bel.mono (by omega))).at hq
          subst hA
          have g0 := hcc 0 _ rfl
          simp only [Nat.mul_one, Nat.add_zero] at g0
          unfold fits at hfq
          clear hcc hq hne0
          go_upto_if 45 with fail
          go_cut [8] (fun v wx => ∃ q' : Nat, v = .int .i64 q' ∧ q' ≤ 9223372036854775807 ∧ wx = V0)
          case first =>
            by_cases hneg : q < 0
            · go_wp2_with fail
              go_meet
              case rel => exact ⟨(-1 - q).toNat, by rw [Int.toNat_of_nonneg (by omega)], by omega, rfl⟩
            · go_wp2_with fail
              go_meet
              case rel => exact ⟨q.toNat, by rw [Int.toNat_of_nonneg (by omega)], by omega, rfl⟩
          case rest =>
            obtain ⟨q', rfl, hq', rfl⟩ := hcut
            clear g0 hfq
            obtain ⟨x, hx⟩ : ∃ x, x = q' % 3 := ⟨_, rfl⟩
            obtain ⟨y, hy⟩ : ∃ y, y = q' / 3 % 3 := ⟨_, rfl⟩
            obtain ⟨z, hz⟩ : ∃ z, z = q' / 3 / 3 % 3 := ⟨_, rfl⟩
            obtain ⟨m, hm⟩ : ∃ m : Int, m = (q' : Int) / 3 / 3 / 3 := ⟨_, rfl⟩
            have hxI : ((q' : Int) % 3) = (x : Int) := by rw [hx]; rfl
            have hyI : ((q' : Int) / 3 % 3) = (y : Int) := by rw [hy]; rfl
            have hzI : ((q' : Int) / 3 / 3 % 3) = (z : Int) := by rw [hz]; rfl
            have hxn : x < 3 := by rw [hx]; exact Nat.mod_lt _ (by omega)
            have hyn : y < 3 := by rw [hy]; exact Nat.mod_lt _ (by omega)
            have hzn : z < 3 := by rw [hz]; exact Nat.mod_lt _ (by omega)
            go_upto_region 13 with fail
            rw [hxI, hyI, hzI, ← hm]
            clear hx hy hz hm hxI hyI hzI
            obtain ⟨xr, hxr⟩ : ∃ t, t = (x + 1) % 3 := ⟨_, rfl⟩
            obtain ⟨yr, hyr⟩ : ∃ t, t = (y + 1) % 3 := ⟨_, rfl⟩
            obtain ⟨zr, hzr⟩ : ∃ t, t = (z + 1) % 3 := ⟨_, rfl⟩
            have hxrn : xr < 3 := by rw [hxr]; exact Nat.mod_lt _ (by omega)
            have hyrn : yr < 3 := by rw [hyr]; exact Nat.mod_lt _ (by omega)
            have hzrn : zr < 3 := by rw [hzr]; exact Nat.mod_lt _ (by omega)
            have kx : IntKind.i64.wrap (1 + (x : Int)) = 1 + (x : Int) := IntWalk.i64_in _ (by omega)
            have ky : IntKind.i64.wrap (1 + (y : Int)) = 1 + (y : Int) := IntWalk.i64_in _ (by omega)
            have kz : IntKind.i64.wrap (1 + (z : Int)) = 1 + (z : Int) := IntWalk.i64_in _ (by omega)
            have lx : IntKind.i64.wrap ((x : Int) + 1) = (x : Int) + 1 := IntWalk.i64_in _ (by omega)
            have ly : IntKind.i64.wrap ((y : Int) + 1) = (y : Int) + 1 := IntWalk.i64_in _ (by omega)
            have lz : IntKind.i64.wrap ((z : Int) + 1) = (z : Int) + 1 := IntWalk.i64_in _ (by omega)
            have rx : Int.tmod ((x : Int) + 1) 3 = (xr : Int) := by rw [hxr]; rfl
            have ry : Int.tmod ((y : Int) + 1) 3 = (yr : Int) := by rw [hyr]; rfl
            have rz : Int.tmod ((z : Int) + 1) 3 = (zr : Int) := by rw [hzr]; rfl
            have tx : IntKind.i64.wrap (1 + (xr : Int)) = 1 + (xr : Int) := IntWalk.i64_in _ (by omega)
            have ty : IntKind.i64.wrap (1 + (yr : Int)) = 1 + (yr : Int) := IntWalk.i64_in _ (by omega)
            have tz : IntKind.i64.wrap (1 + (zr : Int)) = 1 + (zr : Int) := IntWalk.i64_in _ (by omega)
            have HFacts := hide (And.intro kx (And.intro ky (And.intro kz (And.intro lx (And.intro ly (And.intro lz (And.intro rx (And.intro ry (And.intro rz (And.intro tx (And.intro ty tz)))))))))))
            clear hxr hyr hzr kx ky kz lx ly lz rx ry rz tx ty tz
            obtain ⟨HIW, hHIW⟩ : ∃ W, W = wc := ⟨_, rfl⟩
            obtain ⟨HIF, hHIF⟩ : ∃ G, G = F := ⟨_, rfl⟩
            rw [← hHIF, ← hHIW] at HI
            rw [← hHIW]
            clear hHIW hHIF
            have hq : HIW.drew.cell? ⟨gf, 1, none⟩ = some (.slice (some ⟨g, 0, none⟩) 125 125) := by have h := HI.out.box.two.2; rw [HI.out.len] at h; exact h
            refine wp_region_mix (fun W => W.cell? ⟨gf, 1, none⟩ = some (.slice (some ⟨g, 0, none⟩) 125 125)) [0, 1, 2, 3, 4, 5, 6, 7, 8, 10, 11, 12] [0, 1, 2, 3, 4, 5, 6, 7, 8, 10, 11, 12, 9, 13, 14] mixed_ok (by kernel_rfl) ?_
            refine wpMix_q (v := .pointer (some ⟨gf, 1, none⟩)) rfl rfl (fun _ _ _ h => h) hq ⟨rfl, fun _ _ => by simp [go_sem]⟩ ?_
            refine wpMix_q (v := .slice (some ⟨g, 0, none⟩) 125 125) rfl rfl (fun _ _ _ h => h) hq ⟨rfl, fun _ h' => by simp [go_sem, h']⟩ ?_
            refine wpMix_q (v := .int .i64 2) rfl rfl (fun _ _ _ h => h) hq ⟨rfl, fun _ _ => by simp [go_sem]⟩ ?_
            refine wpMix_q (v := .int .i64 (x : Int)) rfl rfl (fun _ _ _ h => h) hq ⟨rfl, fun _ _ => by simp [go_sem]⟩ ?_
            refine wpMix_q (v := .int .i64 (1 + (x : Int))) rfl rfl (fun _ _ _ h => h) hq ⟨rfl, fun _ _ => by simp [go_sem, HFacts.out.1]⟩ ?_
            refine wpMix_q (v := .int .i64 (y : Int)) rfl rfl (fun _ _ _ h => h) hq ⟨rfl, fun _ _ => by simp [go_sem]⟩ ?_
            refine wpMix_q (v := .int .i64 (1 + (y : Int))) rfl rfl (fun _ _ _ h => h) hq ⟨rfl, fun _ _ => by simp [go_sem, HFacts.out.2.1]⟩ ?_
            refine wpMix_q (v := .int .i64 (z : Int)) rfl rfl (fun _ _ _ h => h) hq ⟨rfl, fun _ _ => by simp [go_sem]⟩ ?_
            refine wpMix_q (v := .int .i64 (1 + (z : Int))) rfl rfl (fun _ _ _ h => h) hq ⟨rfl, fun _ _ => by simp [go_sem, HFacts.out.2.2.1]⟩ ?_
            refine wpMix_q (v := .int .i64 m) rfl rfl (fun _ _ _ h => h) hq ⟨rfl, fun _ _ => by simp [go_sem]⟩ ?_
            refine wpMix_q (v := .int .i64 (bits BinOp.and IntKind.i64 m 8)) rfl rfl (fun _ _ _ h => h) hq ⟨rfl, fun _ _ => by simp [go_sem]⟩ ?_
            refine wpMix_q (v := .bool (bits BinOp.and IntKind.i64 m 8 == 0)) rfl rfl (fun _ _ _ h => h) hq ⟨rfl, fun _ _ => by simp [go_sem]⟩ ?_
            refine wpMix_n rfl rfl ?_
            go_wp2_with fail
            have hix : ∀ W, Calls Try.prog 17 #[.int .i64 2, .int .i64 (1 + (x : Int)), .int .i64 (1 + (y : Int)), .int .i64 (1 + (z : Int))] W fun e w' => e = .returned (.int .i64 (((1 + z) * 5 + (1 + y)) * 5 + (1 + x) : Nat)) ∧ w' = W := fun W => index_any 2 (1 + x) (1 + y) (1 + z) (by omega) (by omega) (by omega) (by omega) (by omega) W
            have hok := inner_ok (n := 4) (x := x) (y := y) (z := z) (by omega) (by omega) (by omega)
            have hil := inner_lt (n := 4) (x := x) (y := y) (z := z) (by omega) (by omega) (by omega)
            obtain ⟨i, hi⟩ : ∃ i, i = ((1 + z) * 5 + (1 + y)) * 5 + (1 + x) := ⟨_, rfl⟩
            have hok : ∀ j, j < 3 → badC 4 (compK (4 + 1) i j) = false := by rw [hi]; exact hok
            have hil : i < 125 := by rw [hi]; exact hil
            rw [← hi] at hix
            refine (hix _).mono ?_
            rintro e w' ⟨rfl, rfl⟩
            clear hix hi
            go_wp2_with fail
            refine ⟨fun _ => hq, ?_⟩
            have hcell : HIW.drew.cell? ⟨g, i, none⟩ = some (.bool (HIF.getD i false)) := HI.out.box.drew.cell (by rw [HI.out.len]; exact hil)
            have hfrz := HI.out.box.drew.row.frozen i
            refine wpMix_tail _ [_, _] (by kernel_rfl) rfl ?_
            simp only [List.getElem_toArray, List.getElem_cons_succ, List.getElem_cons_zero]
            go_upto_if 86 with fail
            have hI1 := HI.out.put (b := bits BinOp.and IntKind.i64 m 8 == 0) hne hg hok
            have HJ := hide hI1
            clear hI1 hok hil hcell hfrz hq
            obtain ⟨HJW, hHJW⟩ : ∃ W, W = (HIW.setCell ⟨g, i, none⟩ (.bool (bits BinOp.and IntKind.i64 m 8 == 0))).drew := ⟨_, rfl⟩
            obtain ⟨HJF, hHJF⟩ : ∃ G, G = HIF.set i (bits BinOp.and IntKind.i64 m 8 == 0) := ⟨_, rfl⟩
            rw [← hHJW, ← hHJF] at HJ
            rw [← hHJW]
            clear hHJW hHJF
            go_cut [] (fun wx => ∃ G, FdS 2 125 4 (w.heap.size + 1) X0 wx gf g G)
            case first =>
              by_cases hb : ¬ bits BinOp.and IntKind.i64 m 1 = 1
              · go_wp2_with fail
                go_meet
                case rel => exact ⟨_, HJ.out⟩
              · have hb : bits BinOp.and IntKind.i64 m 1 = 1 := Classical.not_not.1 hb
                go_wp2_with fail
                have hq : HJW.drew.cell? ⟨gf, 1, none⟩ = some (.slice (some ⟨g, 0, none⟩) 125 125) := by have h := HJ.out.box.two.2; rw [HJ.out.len] at h; exact h
                refine wp_region_mix (fun W => W.cell? ⟨gf, 1, none⟩ = some (.slice (some ⟨g, 0, none⟩) 125 125)) [0, 1, 2, 3, 4, 5, 6, 7, 8, 9, 10, 11, 13, 14, 15] [0, 1, 2, 3, 4, 5, 6, 7, 8, 9, 10, 11, 13, 14, 15, 12, 16, 17] mixed_ok (by kernel_rfl) ?_
                refine wpMix_q (v := .pointer (some ⟨gf, 1, none⟩)) rfl rfl (fun _ _ _ h => h) hq ⟨rfl, fun _ _ => by simp [go_sem]⟩ ?_
                refine wpMix_q (v := .slice (some ⟨g, 0, none⟩) 125 125) rfl rfl (fun _ _ _ h => h) hq ⟨rfl, fun _ h' => by simp [go_sem, h']⟩ ?_
                refine wpMix_q (v := .int .i64 2) rfl rfl (fun _ _ _ h => h) hq ⟨rfl, fun _ _ => by simp [go_sem]⟩ ?_
                refine wpMix_q (v := .int .i64 (x : Int)) rfl rfl (fun _ _ _ h => h) hq ⟨rfl, fun _ _ => by simp [go_sem]⟩ ?_
                refine wpMix_q (v := .int .i64 ((x : Int) + 1)) rfl rfl (fun _ _ _ h => h) hq ⟨rfl, fun _ _ => by simp [go_sem, HFacts.out.2.2.2.1]⟩ ?_
                refine wpMix_q (v := .int .i64 (3)) rfl rfl (fun _ _ _ h => h) hq ⟨rfl, fun _ _ => by simp [go_sem]⟩ ?_
                refine wpMix_q (v := .int .i64 ((xr : Int))) rfl rfl (fun _ _ _ h => h) hq ⟨rfl, fun _ _ => by simp [go_sem, HFacts.out.2.2.2.2.2.2.1]⟩ ?_
                refine wpMix_q (v := .int .i64 (1 + (xr : Int))) rfl rfl (fun _ _ _ h => h) hq ⟨rfl, fun _ _ => by simp [go_sem, HFacts.out.2.2.2.2.2.2.2.2.2.1]⟩ ?_
                refine wpMix_q (v := .int .i64 (y : Int)) rfl rfl (fun _ _ _ h => h) hq ⟨rfl, fun _ _ => by simp [go_sem]⟩ ?_
                refine wpMix_q (v := .int .i64 (1 + (y : Int))) rfl rfl (fun _ _ _ h => h) hq ⟨rfl, fun _ _ => by simp [go_sem, HFacts.out.2.1]⟩ ?_
                refine wpMix_q (v := .int .i64 (z : Int)) rfl rfl (fun _ _ _ h => h) hq ⟨rfl, fun _ _ => by simp [go_sem]⟩ ?_
                refine wpMix_q (v := .int .i64 (1 + (z : Int))) rfl rfl (fun _ _ _ h => h) hq ⟨rfl, fun _ _ => by simp [go_sem, HFacts.out.2.2.1]⟩ ?_
                refine wpMix_q (v := .int .i64 m) rfl rfl (fun _ _ _ h => h) hq ⟨rfl, fun _ _ => by simp [go_sem]⟩ ?_
                refine wpMix_q (v := .int .i64 (bits BinOp.and IntKind.i64 m 8)) rfl rfl (fun _ _ _ h => h) hq ⟨rfl, fun _ _ => by simp [go_sem]⟩ ?_
                refine wpMix_q (v := .bool (bits BinOp.and IntKind.i64 m 8 == 0)) rfl rfl (fun _ _ _ h => h) hq ⟨rfl, fun _ _ => by simp [go_sem]⟩ ?_
                refine wpMix_n rfl rfl ?_
                go_wp2_with fail
                have hix : ∀ W, Calls Try.prog 17 #[.int .i64 2, .int .i64 (1 + (xr : Int)), .int .i64 (1 + (y : Int)), .int .i64 (1 + (z : Int))] W fun e w' => e = .returned (.int .i64 (((1 + z) * 5 + (1 + y)) * 5 + (1 + xr) : Nat)) ∧ w' = W := fun W => index_any 2 (1 + xr) (1 + y) (1 + z) (by omega) (by omega) (by omega) (by omega) (by omega) W
                have hok := inner_ok (n := 4) (x := xr) (y := y) (z := z) (by omega) (by omega) (by omega)
                have hil := inner_lt (n := 4) (x := xr) (y := y) (z := z) (by omega) (by omega) (by omega)
                obtain ⟨i, hi⟩ : ∃ i, i = ((1 + z) * 5 + (1 + y)) * 5 + (1 + xr) := ⟨_, rfl⟩
                have hok : ∀ j, j < 3 → badC 4 (compK (4 + 1) i j) = false := by rw [hi]; exact hok
                have hil : i < 125 := by rw [hi]; exact hil
                rw [← hi] at hix
                refine (hix _).mono ?_
                rintro e w' ⟨rfl, rfl⟩
                clear hix hi
                go_wp2_with fail
                refine ⟨fun _ => hq, ?_⟩
                have hcell : HJW.drew.cell? ⟨g, i, none⟩ = some (.bool (HJF.getD i false)) := HJ.out.box.drew.cell (by rw [HJ.out.len]; exact hil)
                have hfrz := HJ.out.box.drew.row.frozen i
                refine wpMix_tail _ [_, _] (by kernel_rfl) rfl ?_
                simp only [List.getElem_toArray, List.getElem_cons_succ, List.getElem_cons_zero]
                go_wp2_with fail
                go_meet
                case rel => exact ⟨_, HJ.out.put hne hg hok⟩
            case rest =>
            obtain ⟨HKF, hcut⟩ := hcut
            obtain ⟨HKW, rfl⟩ : ∃ W, W = wc := ⟨_, rfl⟩
            have HK := hide hcut
            clear hcut
            go_upto_if 106 with fail
            go_cut [] (fun wx => ∃ G, FdS 2 125 4 (w.heap.size + 1) X0 wx gf g G)
            case first =>
              by_cases hb : ¬ bits BinOp.and IntKind.i64 m 2 = 2
              · go_wp2_with fail
                go_meet
                case rel => exact ⟨_, HK.out⟩
              · have hb : bits BinOp.and IntKind.i64 m 2 = 2 := Classical.not_not.1 hb
                go_wp2_with fail
                have hq : HKW.drew.cell? ⟨gf, 1, none⟩ = some (.slice (some ⟨g, 0, none⟩) 125 125) := by have h := HK.out.box.two.2; rw [HK.out.len] at h; exact h
                refine wp_region_mix (fun W => W.cell? ⟨gf, 1, none⟩ = some (.slice (some ⟨g, 0, none⟩) 125 125)) [0, 1, 2, 3, 4, 5, 6, 7, 8, 9, 10, 11, 13, 14, 15] [0, 1, 2, 3, 4, 5, 6, 7, 8, 9, 10, 11, 13, 14, 15, 12, 16, 17] mixed_ok (by kernel_rfl) ?_
                refine wpMix_q (v := .pointer (some ⟨gf, 1, none⟩)) rfl rfl (fun _ _ _ h => h) hq ⟨rfl, fun _ _ => by simp [go_sem]⟩ ?_
                refine wpMix_q (v := .slice (some ⟨g, 0, none⟩) 125 125) rfl rfl (fun _ _ _ h => h) hq ⟨rfl, fun _ h' => by simp [go_sem, h']⟩ ?_
                refine wpMix_q (v := .int .i64 2) rfl rfl (fun _ _ _ h => h) hq ⟨rfl, fun _ _ => by simp [go_sem]⟩ ?_
                refine wpMix_q (v := .int .i64 (x : Int)) rfl rfl (fun _ _ _ h => h) hq ⟨rfl, fun _ _ => by simp [go_sem]⟩ ?_
                refine wpMix_q (v := .int .i64 (1 + (x : Int))) rfl rfl (fun _ _ _ h => h) hq ⟨rfl, fun _ _ => by simp [go_sem, HFacts.out.1]⟩ ?_
                refine wpMix_q (v := .int .i64 (y : Int)) rfl rfl (fun _ _ _ h => h) hq ⟨rfl, fun _ _ => by simp [go_sem]⟩ ?_
                refine wpMix_q (v := .int .i64 ((y : Int) + 1)) rfl rfl (fun _ _ _ h => h) hq ⟨rfl, fun _ _ => by simp [go_sem, HFacts.out.2.2.2.2.1]⟩ ?_
                refine wpMix_q (v := .int .i64 (3)) rfl rfl (fun _ _ _ h => h) hq ⟨rfl, fun _ _ => by simp [go_sem]⟩ ?_
                refine wpMix_q (v := .int .i64 ((yr : Int))) rfl rfl (fun _ _ _ h => h) hq ⟨rfl, fun _ _ => by simp [go_sem, HFacts.out.2.2.2.2.2.2.2.1]⟩ ?_
                refine wpMix_q (v := .int .i64 (1 + (yr : Int))) rfl rfl (fun _ _ _ h => h) hq ⟨rfl, fun _ _ => by simp [go_sem, HFacts.out.2.2.2.2.2.2.2.2.2.2.1]⟩ ?_
                refine wpMix_q (v := .int .i64 (z : Int)) rfl rfl (fun _ _ _ h => h) hq ⟨rfl, fun _ _ => by simp [go_sem]⟩ ?_
                refine wpMix_q (v := .int .i64 (1 + (z : Int))) rfl rfl (fun _ _ _ h => h) hq ⟨rfl, fun _ _ => by simp [go_sem, HFacts.out.2.2.1]⟩ ?_
                refine wpMix_q (v := .int .i64 m) rfl rfl (fun _ _ _ h => h) hq ⟨rfl, fun _ _ => by simp [go_sem]⟩ ?_
                refine wpMix_q (v := .int .i64 (bits BinOp.and IntKind.i64 m 8)) rfl rfl (fun _ _ _ h => h) hq ⟨rfl, fun _ _ => by simp [go_sem]⟩ ?_
                refine wpMix_q (v := .bool (bits BinOp.and IntKind.i64 m 8 == 0)) rfl rfl (fun _ _ _ h => h) hq ⟨rfl, fun _ _ => by simp [go_sem]⟩ ?_
                refine wpMix_n rfl rfl ?_
                go_wp2_with fail
                have hix : ∀ W, Calls Try.prog 17 #[.int .i64 2, .int .i64 (1 + (x : Int)), .int .i64 (1 + (yr : Int)), .int .i64 (1 + (z : Int))] W fun e w' => e = .returned (.int .i64 (((1 + z) * 5 + (1 + yr)) * 5 + (1 + x) : Nat)) ∧ w' = W := fun W => index_any 2 (1 + x) (1 + yr) (1 + z) (by omega) (by omega) (by omega) (by omega) (by omega) W
                have hok := inner_ok (n := 4) (x := x) (y := yr) (z := z) (by omega) (by omega) (by omega)
                have hil := inner_lt (n := 4) (x := x) (y := yr) (z := z) (by omega) (by omega) (by omega)
                obtain ⟨i, hi⟩ : ∃ i, i = ((1 + z) * 5 + (1 + yr)) * 5 + (1 + x) := ⟨_, rfl⟩
                have hok : ∀ j, j < 3 → badC 4 (compK (4 + 1) i j) = false := by rw [hi]; exact hok
                have hil : i < 125 := by rw [hi]; exact hil
                rw [← hi] at hix
                refine (hix _).mono ?_
                rintro e w' ⟨rfl, rfl⟩
                clear hix hi
                go_wp2_with fail
                refine ⟨fun _ => hq, ?_⟩
                have hcell : HKW.drew.cell? ⟨g, i, none⟩ = some (.bool (HKF.getD i false)) := HK.out.box.drew.cell (by rw [HK.out.len]; exact hil)
                have hfrz := HK.out.box.drew.row.frozen i
                refine wpMix_tail _ [_, _] (by kernel_rfl) rfl ?_
                simp only [List.getElem_toArray, List.getElem_cons_succ, List.getElem_cons_zero]
                go_wp2_with fail
                go_meet
                case rel => exact ⟨_, HK.out.put hne hg hok⟩
            case rest =>
            obtain ⟨HMF, hcut⟩ := hcut
            obtain ⟨HMW, rfl⟩ : ∃ W, W = wc := ⟨_, rfl⟩
            have HM := hide hcut
            clear hcut
            go_upto_if 126 with fail
            by_cases hb : ¬ bits BinOp.and IntKind.i64 m 4 = 4
            · go_wp2_with fail
              go_roundw
              case rel => exact ⟨k + 1, HMF, by omega, by go_num, HM.out⟩
              case measure => simp [intOf]; omega
            · have hb : bits BinOp.and IntKind.i64 m 4 = 4 := Classical.not_not.1 hb
              go_wp2_with fail
              have hq : HMW.drew.cell? ⟨gf, 1, none⟩ = some (.slice (some ⟨g, 0, none⟩) 125 125) := by have h := HM.out.box.two.2; rw [HM.out.len] at h; exact h
              refine wp_region_mix (fun W => W.cell? ⟨gf, 1, none⟩ = some (.slice (some ⟨g, 0, none⟩) 125 125)) [0, 1, 2, 3, 4, 5, 6, 7, 8, 9, 10, 11, 13, 14, 15] [0, 1, 2, 3, 4, 5, 6, 7, 8, 9, 10, 11, 13, 14, 15, 12, 16, 17] mixed_ok (by kernel_rfl) ?_
              refine wpMix_q (v := .pointer (some ⟨gf, 1, none⟩)) rfl rfl (fun _ _ _ h => h) hq ⟨rfl, fun _ _ => by simp [go_sem]⟩ ?_
              refine wpMix_q (v := .slice (some ⟨g, 0, none⟩) 125 125) rfl rfl (fun _ _ _ h => h) hq ⟨rfl, fun _ h' => by simp [go_sem, h']⟩ ?_
              refine wpMix_q (v := .int .i64 2) rfl rfl (fun _ _ _ h => h) hq ⟨rfl, fun _ _ => by simp [go_sem]⟩ ?_
              refine wpMix_q (v := .int .i64 (x : Int)) rfl rfl (fun _ _ _ h => h) hq ⟨rfl, fun _ _ => by simp [go_sem]⟩ ?_
              refine wpMix_q (v := .int .i64 (1 + (x : Int))) rfl rfl (fun _ _ _ h => h) hq ⟨rfl, fun _ _ => by simp [go_sem, HFacts.out.1]⟩ ?_
              refine wpMix_q (v := .int .i64 (y : Int)) rfl rfl (fun _ _ _ h => h) hq ⟨rfl, fun _ _ => by simp [go_sem]⟩ ?_
              refine wpMix_q (v := .int .i64 (1 + (y : Int))) rfl rfl (fun _ _ _ h => h) hq ⟨rfl, fun _ _ => by simp [go_sem, HFacts.out.2.1]⟩ ?_
              refine wpMix_q (v := .int .i64 (z : Int)) rfl rfl (fun _ _ _ h => h) hq ⟨rfl, fun _ _ => by simp [go_sem]⟩ ?_
              refine wpMix_q (v := .int .i64 ((z : Int) + 1)) rfl rfl (fun _ _ _ h => h) hq ⟨rfl, fun _ _ => by simp [go_sem, HFacts.out.2.2.2.2.2.1]⟩ ?_
              refine wpMix_q (v := .int .i64 (3)) rfl rfl (fun _ _ _ h => h) hq ⟨rfl, fun _ _ => by simp [go_sem]⟩ ?_
              refine wpMix_q (v := .int .i64 ((zr : Int))) rfl rfl (fun _ _ _ h => h) hq ⟨rfl, fun _ _ => by simp [go_sem, HFacts.out.2.2.2.2.2.2.2.2.1]⟩ ?_
              refine wpMix_q (v := .int .i64 (1 + (zr : Int))) rfl rfl (fun _ _ _ h => h) hq ⟨rfl, fun _ _ => by simp [go_sem, HFacts.out.2.2.2.2.2.2.2.2.2.2.2]⟩ ?_
              refine wpMix_q (v := .int .i64 m) rfl rfl (fun _ _ _ h => h) hq ⟨rfl, fun _ _ => by simp [go_sem]⟩ ?_
              refine wpMix_q (v := .int .i64 (bits BinOp.and IntKind.i64 m 8)) rfl rfl (fun _ _ _ h => h) hq ⟨rfl, fun _ _ => by simp [go_sem]⟩ ?_
              refine wpMix_q (v := .bool (bits BinOp.and IntKind.i64 m 8 == 0)) rfl rfl (fun _ _ _ h => h) hq ⟨rfl, fun _ _ => by simp [go_sem]⟩ ?_
              refine wpMix_n rfl rfl ?_
              go_wp2_with fail
              have hix : ∀ W, Calls Try.prog 17 #[.int .i64 2, .int .i64 (1 + (x : Int)), .int .i64 (1 + (y : Int)), .int .i64 (1 + (zr : Int))] W fun e w' => e = .returned (.int .i64 (((1 + zr) * 5 + (1 + y)) * 5 + (1 + x) : Nat)) ∧ w' = W := fun W => index_any 2 (1 + x) (1 + y) (1 + zr) (by omega) (by omega) (by omega) (by omega) (by omega) W
              have hok := inner_ok (n := 4) (x := x) (y := y) (z := zr) (by omega) (by omega) (by omega)
              have hil := inner_lt (n := 4) (x := x) (y := y) (z := zr) (by omega) (by omega) (by omega)
              obtain ⟨i, hi⟩ : ∃ i, i = ((1 + zr) * 5 + (1 + y)) * 5 + (1 + x) := ⟨_, rfl⟩
              have hok : ∀ j, j < 3 → badC 4 (compK (4 + 1) i j) = false := by rw [hi]; exact hok
              have hil : i < 125 := by rw [hi]; exact hil
              rw [← hi] at hix
              refine (hix _).mono ?_
              rintro e w' ⟨rfl, rfl⟩
              clear hix hi
              go_wp2_with fail
              refine ⟨fun _ => hq, ?_⟩
              have hcell : HMW.drew.cell? ⟨g, i, none⟩ = some (.bool (HMF.getD i false)) := HM.out.box.drew.cell (by rw [HM.out.len]; exact hil)
              have hfrz := HM.out.box.drew.row.frozen i
              refine wpMix_tail _ [_, _] (by kernel_rfl) rfl ?_
              simp only [List.getElem_toArray, List.getElem_cons_succ, List.getElem_cons_zero]
              go_wp2_with fail
              go_roundw
              case rel => exact ⟨k + 1, _, by omega, by go_num, HM.out.put hne hg hok⟩
              case measure => simp [intOf]; omega
end Go.Proofs.Ytfljcgehhnmamaa
