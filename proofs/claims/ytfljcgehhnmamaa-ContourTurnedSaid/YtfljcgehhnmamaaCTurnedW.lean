/- ContourTurned: the walk. -/
import Derived.StillTailTactics
import Derived.Test.YtfljcgehhnmamaaCTurnL
import Derived.Test.YtfljcgehhnmamaaCFieldA
import Derived.Test.YtfljcgehhnmamaaCSame04
import Derived.Test.YtfljcgehhnmamaaCPutP
import Derived.Test.YtfljcgehhnmamaaCBdP
namespace Go.Proofs.Ytfljcgehhnmamaa
open Go.RowKit Go.Sort
/-- The first j corners turned. -/
def turnJ (t : Tri) (j : Nat) : Tri := if j = 0 then t else if j = 1 then (turnP t.1, t.2.1, t.2.2) else if j = 2 then (turnP t.1, turnP t.2.1, t.2.2) else turnT t
theorem turn_step {C L : List Tri} {k : Nat} {t : Tri} (ht : C[k]? = some t) (hL : L = (C.take k).map turnT ++ C.drop k) : k < L.length ∧ L.set k (turnJ t 0) = L ∧ L.set k (turnJ t 3) = (C.take (k + 1)).map turnT ++ C.drop (k + 1) := by
  have hk : k < C.length := (List.getElem?_eq_some_iff.1 ht).1
  have hd : C.drop k = t :: C.drop (k + 1) := by
    rw [List.drop_eq_getElem_cons hk]
    rw [List.getElem?_eq_getElem hk] at ht
    cases ht; rfl
  have hl : ((C.take k).map turnT).length = k := by rw [List.length_map, List.length_take]; omega
  have hLk : L.length = C.length := by rw [hL, List.length_append, hl, List.length_drop]; omega
  have key : ∀ u : Tri, L.set k u = (C.take k).map turnT ++ u :: C.drop (k + 1) := fun u => by
    rw [hL, List.set_append_right _ _ (by omega), hl, Nat.sub_self, hd, List.set_cons_zero]
  refine ⟨by omega, ?_, ?_⟩
  · rw [key, hL, hd]; rfl
  · rw [key, List.take_add_one, ht, Option.toList_some, List.map_append, List.append_assoc]; rfl
theorem turn_range {t : Tri} (h : rangeT t) : rangeT (turnT t) := by
  obtain ⟨h1, h2, h3⟩ := h
  unfold rangeP at h1 h2 h3
  refine ⟨?_, ?_, ?_⟩ <;> (unfold rangeP turnT turnP; dsimp only; omega)
/-- What the first loop has: the field, and the turned field so far. -/
structure TrS (l N : Nat) (F : List Bool) (b0 bf gF : Nat) (w0 wx : World) (gf g : Nat) (G : List Bool) : Prop where
  src : FBox wx bf gF l F
  box : FBox wx gf g l G
  len : G.length = N
  bel : Below b0 w0 wx
theorem TrS.put {l N : Nat} {F : List Bool} {bf gF : Nat} {w0 wx : World} {gf g : Nat} {G : List Bool} (h : TrS l N F (bf + 1) bf gF w0 wx gf g G) (hne : gf ≠ g) (hg : bf < g) (hgF : gF ≠ g) (i : Nat) (b : Bool) : TrS l N F (bf + 1) bf gF w0 (wx.setCell ⟨g, i, none⟩ (.bool b)).drew gf g (G.set i b) :=
  ⟨(h.src.far (by dsimp only; omega) (by dsimp only; omega) _).drew, (h.box.set hne i b).drew, by rw [List.length_set]; exact h.len, (h.bel.setCell (by dsimp only; omega) _).drew⟩
theorem TrS.four {l N : Nat} {F : List Bool} {b0 bf gF : Nat} {w0 wx : World} {gf g : Nat} {G : List Bool} (h : TrS l N F b0 bf gF w0 wx gf g G) (hN : F.length = N) {k : Nat} (hk : k < N) :
    wx.cell? ⟨bf, 0, none⟩ = some (.int .i64 l) ∧ wx.cell? ⟨bf, 1, none⟩ = some (.slice (some ⟨gF, 0, none⟩) N N) ∧ wx.cell? ⟨gf, 1, none⟩ = some (.slice (some ⟨g, 0, none⟩) N N) ∧ wx.cell? ⟨gF, k, none⟩ = some (.bool (F.getD k false)) := by
  have h1 := h.src.two
  have h2 := h.box.two
  rw [hN] at h1
  rw [h.len] at h2
  exact ⟨h1.1, h1.2, h2.2, h.src.cell (by omega)⟩
set_option maxRecDepth 100000 in
set_option maxHeartbeats 32000000 in
theorem turned_walk (x0 : Nat) (A1 : Option Addr) (c1 : Nat) (ns1 : List Int) (w : World) (hx0 : x0 < 256) (hs1 : ns1 ≠ [] → Sl encZ 1 w w.heap.size A1 ns1) (hf1 : ∀ x ∈ ns1, fits x) (hl1 : ns1.length ≤ 9223372036854775807) :
    Calls Try.prog 8 #[.int .u8 x0, .slice A1 ns1.length c1] w fun e w' => e = .returned (.bool true) ∧ Below w.heap.size w w' := by
  have hfd := fun W (hW : Below w.heap.size w W) => lfield_any x0 hx0 A1 c1 ns1 W (fun hne => ((hs1 hne).below hW).more hW.size) hf1 hl1
  obtain ⟨nl, hnl⟩ : ∃ nl, nl = ns1.length := ⟨_, rfl⟩
  rw [← hnl] at hfd ⊢
  have HF := hide hfd
  clear hfd hs1 hf1 hl1 hnl
  obtain ⟨l, hl⟩ : ∃ l, l = lvlP x0 := ⟨_, rfl⟩
  have hl13 : 1 ≤ l ∧ l ≤ 3 := by rw [hl]; exact lvl_b x0
  rw [← hl] at HF
  clear hl
  go_enter Try.func8, Try.ntmps8
  go_wp2_with fail
  refine (sanity8_any w).mono ?_
  rintro e w1 ⟨rfl, hB1⟩
  have hz1 := hB1.size
  have HB1 := hide hB1
  clear hB1
  go_wp2_with fail
  refine (HF.out w1 HB1.out).mono ?_
  rintro e w2 ⟨gF, F, rfl, hb, hg, hv, hB2⟩
  have hz2 := hB2.size
  have hgFl := hb.lt
  obtain ⟨hlen, hok⟩ := valid_parts hv
  obtain ⟨s, hs⟩ : ∃ s, s = 2 ^ l + 1 := ⟨_, rfl⟩
  have hs3 : s = 3 ∨ s = 5 ∨ s = 9 := by
    have hc : l = 1 ∨ l = 2 ∨ l = 3 := by omega
    rcases hc with rfl | rfl | rfl <;> simp [hs]
  rw [← hs] at hlen
  obtain ⟨N, hN⟩ : ∃ N, N = F.length := ⟨_, rfl⟩
  rw [← hN] at hlen
  have hN729 : N ≤ 729 := by rw [hlen]; rcases hs3 with rfl | rfl | rfl <;> decide
  have hmN : ∀ W : World, (Instr.makeSlice 24 (.int .i64 (N : Int)) (.int .i64 (N : Int))).run Try.prog W = .ok (.slice (some ⟨W.heap.size, 0, none⟩) N N) (W.alloc (.cells ((List.replicate N false).map Value.bool).toArray 4)) := mk_bl N (by omega)
  obtain ⟨ZN, hZN⟩ : ∃ Z, Z = ((List.replicate N false).map Value.bool).toArray := ⟨_, rfl⟩
  rw [← hZN] at hmN
  rw [← hN]
  obtain ⟨X, hX⟩ : ∃ X, X = w2.alloc (.cells #[.int .i64 l, .slice (some ⟨gF, 0, none⟩) N N] 26) := ⟨_, rfl⟩
  have hFX : FBox X w2.heap.size gF l F := by rw [hX]; exact ⟨by rw [← hN]; exact Blk.new _ _ _, hb.alloc _⟩
  have hBX : Below w1.heap.size w1 X := by rw [hX]; exact hB2.alloc hz2 _
  have hzX : X.heap.size = w2.heap.size + 1 := by rw [hX]; simp
  have HX := hide (And.intro hFX (And.intro hBX (And.intro hX (And.intro hv (And.intro hs (And.intro hN (And.intro hlen (And.intro hok hZN))))))))
  clear hFX hBX hX hv hb hB2 hlen hok hs hN hZN
  go_upto_region 3 with fail
  rw [← HX.out.2.2.1]
  have hc0 := HX.out.1.two.1
  go_cut [7] (fun v wx => v = .int .i64 s ∧ wx = X)
  case first =>
    have hc : l = 1 ∨ l = 2 ∨ l = 3 := by omega
    have hse := HX.out.2.2.2.2.1
    rcases hc with rfl | rfl | rfl
    · go_wp2_with fail
      go_meet
      case rel => exact ⟨by rw [hse]; rfl, rfl⟩
    · go_wp2_with fail
      go_meet
      case rel => exact ⟨by rw [hse]; rfl, rfl⟩
    · go_wp2_with fail
      go_meet
      case rel => exact ⟨by rw [hse]; rfl, rfl⟩
  case rest =>
    obtain ⟨rfl, rfl⟩ := hcut
    obtain ⟨X1, rfl⟩ : ∃ X1, X1 = wc := ⟨_, rfl⟩
    have hc1 := HX.out.1.two.2
    rw [← HX.out.2.2.2.2.2.1] at hc1
    go_upto_region 4 with fail
    go_cut [8] (fun p wx => ∃ gf g, p = .pointer (some ⟨gf, 0, none⟩) ∧ gf ≠ g ∧ w2.heap.size < gf ∧ w2.heap.size < g ∧ TrS l N F (w2.heap.size + 1) w2.heap.size gF X1 wx gf g (List.replicate N false))
    case first =>
      have hS : ∀ W, Below (w2.heap.size + 1) X1 W → W.cell? ⟨w2.heap.size, 0, none⟩ = some (.int .i64 l) ∧ W.cell? ⟨w2.heap.size, 1, none⟩ = some (.slice (some ⟨gF, 0, none⟩) N N) := fun W hW => ⟨(hW.cell (p := ⟨w2.heap.size, 0, none⟩) (by dsimp only; omega)).trans hc0, (hW.cell (p := ⟨w2.heap.size, 1, none⟩) (by dsimp only; omega)).trans hc1⟩
      have HS := hide hS
      have hq := hS X1.drew (Below.refl _ X1).drew
      have HQ := hide hq
      clear hS hq hc0 hc1
      refine wp_region_tree (fun W => W.cell? ⟨w2.heap.size, 0, none⟩ = some (.int .i64 l) ∧ W.cell? ⟨w2.heap.size, 1, none⟩ = some (.slice (some ⟨gF, 0, none⟩) N N)) [0, 1, 2, 3, 4, 6] (.q 0 (.q 1 (.q 2 (.q 3 (.q 4 (.two 5 (.q 6 (.one 7 (.one 8 .nil))) 7 (.one 5 (.q 6 (.one 8 .nil))))))))) mixed_ok (by kernel_rfl) ?_
      refine wpMixT_q (v := .pointer (some ⟨w2.heap.size, 0, none⟩)) rfl (fun _ _ _ h => h) HQ.out ⟨rfl, fun _ _ => by simp [go_sem]⟩ ?_
      refine wpMixT_q (v := .int .i64 l) rfl (fun _ _ _ h => h) HQ.out ⟨rfl, fun _ h' => by simp [go_sem, h'.1]⟩ ?_
      refine wpMixT_q (v := .pointer (some ⟨w2.heap.size, 1, none⟩)) rfl (fun _ _ _ h => h) HQ.out ⟨rfl, fun _ _ => by simp [go_sem]⟩ ?_
      refine wpMixT_q (v := .slice (some ⟨gF, 0, none⟩) N N) rfl (fun _ _ _ h => h) HQ.out ⟨rfl, fun _ h' => by simp [go_sem, h'.2]⟩ ?_
      refine wpMixT_q (v := .int .i64 (N : Int)) rfl (fun _ _ _ h => h) HQ.out ⟨rfl, fun _ _ => by simp [go_sem]⟩ ?_
      refine wpMixT_two rfl rfl ?_ ?_
      · go_wp2_with fail
        refine ⟨fun _ => HS.out _ (((Below.refl _ X1).alloc (by omega) _).drew), ?_⟩
        refine wpMixT_q (v := .agg #[.int .i64 l, .slice (some ⟨w2.heap.size + 1, 0, none⟩) N N]) rfl (fun _ _ _ h => h) (HS.out _ (((Below.refl _ X1).alloc (by omega) _).drew)) ⟨rfl, fun _ _ => by simp [go_sem]⟩ ?_
        refine wpMixT_one rfl ?_
        go_wp2_with fail
        refine ⟨fun _ => HS.out _ ((((Below.refl _ X1).alloc (by omega) _).alloc (by simp; omega) _).drew), ?_⟩
        refine wpMixT_one rfl ?_
        go_wp2_with fail
        refine ⟨fun _ => HS.out _ ((((Below.refl _ X1).alloc (by omega) _).alloc (by simp; omega) _).drew), wpMixT_nil ?_⟩
        go_wp2_with fail
        go_meet
        case rel =>
          refine ⟨_, w2.heap.size + 1, rfl, by omega, by omega, by omega, ⟨?_, ⟨?_, ?_⟩, List.length_replicate, ?_⟩⟩
          · exact ((HX.out.1.alloc _).alloc _).drew
          · rw [List.length_replicate]; exact Blk.new' _ _ _ _ (by simp; omega)
          · rw [← HX.out.2.2.2.2.2.2.2.2]; exact (Blk.new' _ _ _ _ (by omega)).alloc _
          · exact (((Below.refl _ X1).alloc (by omega) _).alloc (by simp; omega) _).drew
      · go_wp2_with fail
        refine ⟨fun _ => HS.out _ (((Below.refl _ X1).alloc (by omega) _).drew), ?_⟩
        refine wpMixT_one rfl ?_
        go_wp2_with fail
        refine ⟨fun _ => HS.out _ ((((Below.refl _ X1).alloc (by omega) _).alloc (by simp; omega) _).drew), ?_⟩
        refine wpMixT_q (v := .agg #[.int .i64 l, .slice (some ⟨w2.heap.size + 1 + 1, 0, none⟩) N N]) rfl (fun _ _ _ h => h) (HS.out _ ((((Below.refl _ X1).alloc (by omega) _).alloc (by simp; omega) _).drew)) ⟨rfl, fun _ _ => by simp [go_sem]⟩ ?_
        refine wpMixT_one rfl ?_
        go_wp2_with fail
        refine ⟨fun _ => HS.out _ ((((Below.refl _ X1).alloc (by omega) _).alloc (by simp; omega) _).drew), wpMixT_nil ?_⟩
        go_wp2_with fail
        go_meet
        case rel =>
          refine ⟨_, w2.heap.size + 1 + 1, rfl, by omega, by omega, by omega, ⟨?_, ⟨?_, ?_⟩, List.length_replicate, ?_⟩⟩
          · exact ((HX.out.1.alloc _).alloc _).drew
          · rw [List.length_replicate]; exact (Blk.new' _ _ _ _ (by omega)).alloc _
          · rw [← HX.out.2.2.2.2.2.2.2.2]; exact Blk.new' _ _ _ _ (by simp; omega)
          · exact (((Below.refl _ X1).alloc (by omega) _).alloc (by simp; omega) _).drew
    case rest =>
      obtain ⟨gf, g, rfl, hne, hgf, hgg, hI⟩ := hcut
      obtain ⟨V, rfl⟩ : ∃ V, V = wc := ⟨_, rfl⟩
      have HV := hide hI
      clear hI hc0 hc1
      go_wp2_with fail
      go_loopw [9] (fun iv wr => ∃ (k : Nat), k ≤ N ∧ iv = .int .i64 k ∧ TrS l N F (w2.heap.size + 1) w2.heap.size gF X1 wr gf g (turnF F s k)) (fun iv _ => N - (intOf iv).toNat)
      case atStart => exact ⟨0, by omega, rfl, by have h := HV.out; rw [show turnF F s 0 = List.replicate F.length false from rfl, ← HX.out.2.2.2.2.2.1]; exact h⟩
      case round =>
        obtain ⟨V0, rfl⟩ : ∃ V0, V0 = wr := ⟨_, rfl⟩
        obtain ⟨k, hk, rfl, hI⟩ := hrel
        have hb1 := hI.src.two.2
        rw [← HX.out.2.2.2.2.2.1] at hb1
        have HI := hide hI
        clear hI
        by_cases hlt : k < N
        · have i1 : (k : Int) < (N : Int) := by omega
          go_upto_region 8 with fail
          have hsN : ¬ s = 0 := by omega
          have hk3 : k < s * s * s := by rw [← HX.out.2.2.2.2.2.2.1]; exact hlt
          have hvl := vtxT_lt hk3
          rw [← HX.out.2.2.2.2.2.2.1] at hvl
          have hvx : vtxT s k = (k % s * s + k / s / s) * s + k / s % s := rfl
          have b1 := (three_of hk3).1
          have b2 := (three_of hk3).2.1
          have b3 := (three_of hk3).2.2.1
          obtain ⟨u, hu⟩ : ∃ u, u = k / s := ⟨_, rfl⟩
          rw [← hu] at hvx b2 b3
          obtain ⟨y, hy⟩ : ∃ y, y = u % s := ⟨_, rfl⟩
          obtain ⟨z, hz⟩ : ∃ z, z = u / s := ⟨_, rfl⟩
          obtain ⟨x, hx⟩ : ∃ x, x = k % s := ⟨_, rfl⟩
          rw [← hx, ← hy, ← hz] at hvx
          rw [← hx] at b1
          rw [← hy] at b2
          rw [← hz] at b3
          have hs9 : s ≤ 9 := by omega
          have huk : u ≤ k := by rw [hu]; exact Nat.div_le_self _ _
          have t1 : IntKind.i64.wrap ((k : Int) / (s : Int)) = (u : Int) := by rw [hu]; exact IntWalk.i64_in _ (by have := Nat.div_le_self k s; omega)
          have t2 : Int.tmod (u : Int) (s : Int) = (y : Int) := by rw [hy]; rfl
          have t3 : IntKind.i64.wrap ((u : Int) / (s : Int)) = (z : Int) := by rw [hz]; exact IntWalk.i64_in _ (by have := Nat.div_le_self u s; omega)
          have t4 : Int.tmod (k : Int) (s : Int) = (x : Int) := by rw [hx]; rfl
          have HT := hide (And.intro hsN (And.intro t1 (And.intro t2 (And.intro t3 t4))))
          have hq := HI.out.four (HX.out.2.2.2.2.2.1.symm) hlt
          have HQ := hide (show V0.drew.cell? ⟨w2.heap.size, 0, none⟩ = some (.int .i64 l) ∧ V0.drew.cell? ⟨w2.heap.size, 1, none⟩ = some (.slice (some ⟨gF, 0, none⟩) N N) ∧ V0.drew.cell? ⟨gf, 1, none⟩ = some (.slice (some ⟨g, 0, none⟩) N N) ∧ V0.drew.cell? ⟨gF, k, none⟩ = some (.bool (F.getD k false)) from hq)
          have HVX := hide (And.intro hvx hvl)
          clear hq t1 t2 t3 t4 hsN hu hy hz hx hvx hvl hk3 huk
          refine wp_region_mix (fun W => W.cell? ⟨w2.heap.size, 0, none⟩ = some (.int .i64 l) ∧ W.cell? ⟨w2.heap.size, 1, none⟩ = some (.slice (some ⟨gF, 0, none⟩) N N) ∧ W.cell? ⟨gf, 1, none⟩ = some (.slice (some ⟨g, 0, none⟩) N N) ∧ W.cell? ⟨gF, k, none⟩ = some (.bool (F.getD k false))) [0, 1, 2, 3, 4, 5, 6, 7, 8, 9, 10, 11, 12, 13, 14, 15, 16, 18, 19, 20, 21, 22] [0, 1, 2, 3, 4, 5, 6, 7, 8, 9, 10, 11, 12, 13, 14, 15, 16, 18, 19, 20, 21, 22, 17, 23, 24] mixed_ok (by kernel_rfl) ?_
          refine wpMix_q (v := .pointer (some ⟨gf, 1, none⟩)) rfl rfl (fun _ _ _ h => h) HQ.out ⟨rfl, fun _ _ => by simp [go_sem]⟩ ?_
          refine wpMix_q (v := .slice (some ⟨g, 0, none⟩) N N) rfl rfl (fun _ _ _ h => h) HQ.out ⟨rfl, fun _ h' => by simp [go_sem, h'.2.2.1]⟩ ?_
          refine wpMix_q (v := .pointer (some ⟨w2.heap.size, 0, none⟩)) rfl rfl (fun _ _ _ h => h) HQ.out ⟨rfl, fun _ _ => by simp [go_sem]⟩ ?_
          refine wpMix_q (v := .int .i64 (l : Int)) rfl rfl (fun _ _ _ h => h) HQ.out ⟨rfl, fun _ h' => by simp [go_sem, h'.1]⟩ ?_
          refine wpMix_q (v := .int .i64 (k : Int)) rfl rfl (fun _ _ _ h => h) HQ.out ⟨rfl, fun _ _ => by simp [go_sem]⟩ ?_
          refine wpMix_q (v := .int .i64 (s : Int)) rfl rfl (fun _ _ _ h => h) HQ.out ⟨rfl, fun _ _ => by simp [go_sem]⟩ ?_
          simp only [List.getElem_toArray, List.getElem_cons_succ, List.getElem_cons_zero, Act.put, List.setIfInBounds_toArray, List.set_cons_succ, List.set_cons_zero]
          refine wpMix_q (v := .int .i64 (u : Int)) rfl rfl (fun _ _ _ h => h) HQ.out ⟨rfl, fun _ _ => by simp [go_sem, HT.out.1, HT.out.2.1]⟩ ?_
          refine wpMix_q (v := .int .i64 (s : Int)) rfl rfl (fun _ _ _ h => h) HQ.out ⟨rfl, fun _ _ => by simp [go_sem]⟩ ?_
          refine wpMix_q (v := .int .i64 (y : Int)) rfl rfl (fun _ _ _ h => h) HQ.out ⟨rfl, fun _ _ => by simp [go_sem, HT.out.1, HT.out.2.2.1]⟩ ?_
          refine wpMix_q (v := .int .i64 (k : Int)) rfl rfl (fun _ _ _ h => h) HQ.out ⟨rfl, fun _ _ => by simp [go_sem]⟩ ?_
          refine wpMix_q (v := .int .i64 (s : Int)) rfl rfl (fun _ _ _ h => h) HQ.out ⟨rfl, fun _ _ => by simp [go_sem]⟩ ?_
          refine wpMix_q (v := .int .i64 (u : Int)) rfl rfl (fun _ _ _ h => h) HQ.out ⟨rfl, fun _ _ => by simp [go_sem, HT.out.1, HT.out.2.1]⟩ ?_
          simp only [List.getElem_toArray, List.getElem_cons_succ, List.getElem_cons_zero, Act.put, List.setIfInBounds_toArray, List.set_cons_succ, List.set_cons_zero]
          refine wpMix_q (v := .int .i64 (s : Int)) rfl rfl (fun _ _ _ h => h) HQ.out ⟨rfl, fun _ _ => by simp [go_sem]⟩ ?_
          refine wpMix_q (v := .int .i64 (z : Int)) rfl rfl (fun _ _ _ h => h) HQ.out ⟨rfl, fun _ _ => by simp [go_sem, HT.out.1, HT.out.2.2.2.1]⟩ ?_
          refine wpMix_q (v := .int .i64 (k : Int)) rfl rfl (fun _ _ _ h => h) HQ.out ⟨rfl, fun _ _ => by simp [go_sem]⟩ ?_
          refine wpMix_q (v := .int .i64 (s : Int)) rfl rfl (fun _ _ _ h => h) HQ.out ⟨rfl, fun _ _ => by simp [go_sem]⟩ ?_
          refine wpMix_q (v := .int .i64 (x : Int)) rfl rfl (fun _ _ _ h => h) HQ.out ⟨rfl, fun _ _ => by simp [go_sem, HT.out.1, HT.out.2.2.2.2]⟩ ?_
          refine wpMix_q (v := .pointer (some ⟨w2.heap.size, 1, none⟩)) rfl rfl (fun _ _ _ h => h) HQ.out ⟨rfl, fun _ _ => by simp [go_sem]⟩ ?_
          simp only [List.getElem_toArray, List.getElem_cons_succ, List.getElem_cons_zero, Act.put, List.setIfInBounds_toArray, List.set_cons_succ, List.set_cons_zero]
          refine wpMix_q (v := .slice (some ⟨gF, 0, none⟩) N N) rfl rfl (fun _ _ _ h => h) HQ.out ⟨rfl, fun _ h' => by simp [go_sem, h'.2.1]⟩ ?_
          refine wpMix_q (v := .int .i64 (k : Int)) rfl rfl (fun _ _ _ h => h) HQ.out ⟨rfl, fun _ _ => by simp [go_sem]⟩ ?_
          refine wpMix_q (v := .pointer (some ⟨gF, k, none⟩)) rfl rfl (fun _ _ _ h => h) HQ.out ⟨rfl, fun _ _ => by simp [go_sem, i1]⟩ ?_
          refine wpMix_q (v := .bool (F.getD k false)) rfl rfl (fun _ _ _ h => h) HQ.out ⟨rfl, fun _ h' => by simp [go_sem, h'.2.2.2]⟩ ?_
          simp only [List.getElem_toArray, List.getElem_cons_succ, List.getElem_cons_zero]
          refine wpMix_n rfl rfl ?_
          simp only [List.getElem_toArray, List.getElem_cons_succ, List.getElem_cons_zero]
          go_wp2_with fail
          have hix : ∀ W, Calls Try.prog 17 #[.int .i64 l, .int .i64 y, .int .i64 z, .int .i64 x] W fun e w' => e = .returned (.int .i64 (vtxT s k : Nat)) ∧ w' = W := fun W => by
            have h := index_any l y z x (by omega) (by omega) (by omega) (by omega) (by omega) W
            have e : idxP l y z x = vtxT s k := by rw [HVX.out.1, HX.out.2.2.2.2.1]; rfl
            rw [e] at h
            exact h
          obtain ⟨i, hi⟩ : ∃ i, i = vtxT s k := ⟨_, rfl⟩
          rw [← hi] at hix
          have hil : i < N := by rw [hi]; exact HVX.out.2
          refine (hix _).mono ?_
          rintro e w' ⟨rfl, rfl⟩
          have HIi := hide hi
          clear hix hi
          go_wp2_with fail
          refine ⟨fun _ => HQ.out, ?_⟩
          have hcell : V0.drew.cell? ⟨g, i, none⟩ = some (.bool ((turnF F s k).getD i false)) := HI.out.box.drew.cell (by rw [HI.out.len]; exact hil)
          have hfrz := HI.out.box.drew.row.frozen i
          refine wpMix_tail _ [_, _] (by kernel_rfl) rfl ?_
          simp only [List.getElem_toArray, List.getElem_cons_succ, List.getElem_cons_zero]
          go_wp2
          go_roundw
          case rel =>
            refine ⟨k + 1, by omega, by go_num, ?_⟩
            rw [HIi.out]
            exact HI.out.put hne hgg (by omega) (vtxT s k) (F.getD k false)
          case measure => simp [intOf]; omega
        · have hke : k = N := by omega
          subst hke
          obtain ⟨G, hG⟩ : ∃ G, G = turnF F s k := ⟨_, rfl⟩
          have hGG : G = turnG F (2 ^ l + 1) := by rw [hG, ← HX.out.2.2.2.2.1, HX.out.2.2.2.2.2.1]; rfl
          have hvF := HX.out.2.2.2.1
          have hvG : validF l G = true := by rw [hGG]; exact turnG_valid hl13.1 hl13.2 hvF
          have hI := HI.out
          rw [← hG] at hI
          have hlaw := turned_law hl13.1 hl13.2 hvF
          rw [← hGG] at hlaw
          obtain ⟨C, hC⟩ : ∃ C, C = contourP l F := ⟨_, rfl⟩
          obtain ⟨D, hD⟩ : ∃ D, D = contourP l G := ⟨_, rfl⟩
          obtain ⟨M, hM⟩ : ∃ M, M = C.length := ⟨_, rfl⟩
          obtain ⟨Md, hMd⟩ : ∃ Md, Md = D.length := ⟨_, rfl⟩
          have hM2 : M ≤ 12288 := by rw [hM, hC]; exact contour_few hl13.1 hl13.2 hvF
          have hMd2 : Md ≤ 12288 := by rw [hMd, hD]; exact contour_few hl13.1 hl13.2 hvG
          have hrC : ∀ t ∈ C, rangeT t := by rw [hC]; exact contour_range hl13.1 hl13.2 hvF
          have hrD : ∀ t ∈ D, rangeT t := by rw [hD]; exact contour_range hl13.1 hl13.2 hvG
          have hk1 : Calls Try.prog 15 #[.agg #[.int .i64 l, .slice (some ⟨gF, 0, none⟩) k k]] V0 fun e w' => ∃ v, e = .returned v ∧ Own encT 9 40 w' V0.heap.size v M C ∧ Below V0.heap.size V0 w' := by
            have h := contour_any l (some ⟨gF, 0, none⟩) k F V0 (hI.src.sl (Nat.le_refl _)) (by rw [← HX.out.2.2.2.2.2.1]; unfold maxLen; omega)
            rw [← HX.out.2.2.2.2.2.1, ← hC, ← hM] at h
            exact h
          have hk2 : ∀ W, Below V0.heap.size V0 W → Calls Try.prog 15 #[.agg #[.int .i64 l, .slice (some ⟨g, 0, none⟩) k k]] W fun e w' => ∃ v, e = .returned v ∧ Own encT 9 40 w' W.heap.size v Md D ∧ Below W.heap.size W w' := fun W hW => by
            have h := contour_any l (some ⟨g, 0, none⟩) k G W ((hI.box.below hW hI.box.box.lt hI.box.row.lt).sl (Nat.le_refl _)) (by rw [hI.len]; unfold maxLen; omega)
            rw [hI.len, ← hD, ← hMd] at h
            exact h
          have a0 := hI.src.two.1
          have d0 := hI.box.two.1
          have d1 := hI.box.two.2
          rw [hI.len] at d1
          have hgfl := hI.box.box.lt
          have hBw : Below w.heap.size w V0 := HB1.out.trans ((HX.out.2.1.trans (hI.bel.mono (by omega))).mono hz1)
          have hlawC : canonO (C.map turnT) = canonO D := by rw [hC, hD]; exact hlaw
          have HL := hide (And.intro hM (And.intro hMd (And.intro hrC (And.intro hrD (And.intro hlawC hBw)))))
          have HK := hide (And.intro hk1 hk2)
          clear hk1 hk2 hI hlaw hG hGG hvF hvG hC hD hM hMd hrC hrD hlawC hBw
          go_wp2_with fail
          refine HK.out.1.mono ?_
          rintro e w4 ⟨v4, rfl, hown4, hB4⟩
          obtain ⟨As, cs, rfl⟩ := hown4.form
          have hz4 := hB4.size
          have d0' := (hB4.cell (p := ⟨gf, 0, none⟩) hgfl).trans d0
          have d1' := (hB4.cell (p := ⟨gf, 1, none⟩) hgfl).trans d1
          have H4 := hide (And.intro hown4 hB4)
          clear hown4 hB4 d0 d1 a0 hb1
          go_wp2_with fail
          refine (HK.out.2 w4 H4.out.2).mono ?_
          rintro e w5 ⟨v5, rfl, hown5, hB5⟩
          obtain ⟨At, ct, rfl⟩ := hown5.form
          have hz5 := hB5.size
          have hAt : (Value.slice At Md ct).ownBlock = none ∨ ∃ gt, (Value.slice At Md ct).ownBlock = some gt ∧ w4.heap.size ≤ gt := by
            cases hob : (Value.slice At Md ct).ownBlock with
            | none => exact .inl rfl
            | some gt => exact .inr ⟨gt, rfl, (hown5.blk gt hob).1⟩
          have H5 := hide (And.intro (H4.out.1.below hB5 (Nat.le_refl _)) (And.intro hown5 (H4.out.2.trans (hB5.mono hz4))))
          have hpl := H4.out.1.place.2
          clear hown5 hB5 d0' d1'
          go_wp2_with fail
          go_loopw [12] (fun iv wr => ∃ k : Nat, k ≤ M ∧ iv = .int .i64 k ∧ Own encT 9 40 wr V0.heap.size (.slice As M cs) M ((C.take k).map turnT ++ C.drop k) ∧ Own encT 9 40 wr w4.heap.size (.slice At Md ct) Md D ∧ Below V0.heap.size V0 wr) (fun iv _ => M - (intOf iv).toNat)
          case atStart => exact ⟨0, by omega, rfl, H5.out.1, H5.out.2.1, H5.out.2.2⟩
          case round =>
            obtain ⟨k, hk, rfl, hown, hownt, hB⟩ := hrel
            by_cases hlt : k < M
            · have i1 : (k : Int) < (M : Int) := by omega
              have hkC : k < C.length := by rw [← HL.out.1]; exact hlt
              obtain ⟨t0, ht0⟩ : ∃ t, C[k]? = some t := ⟨_, List.getElem?_eq_getElem hkC⟩
              have hne0 : C ≠ [] := fun e => by rw [e] at ht0; cases ht0
              obtain ⟨gs, hAs, hgsV, hgs4⟩ : ∃ gs, As = some ⟨gs, 0, none⟩ ∧ V0.heap.size ≤ gs ∧ gs < w4.heap.size := by
                rcases hpl with ⟨h, _⟩ | h
                · exact absurd h hne0
                · exact h
              subst hAs
              obtain ⟨L, hL⟩ : ∃ L, L = (C.take k).map turnT ++ C.drop k := ⟨_, rfl⟩
              obtain ⟨hkL, hL0, hLs⟩ := turn_step ht0 hL
              rw [← hL] at hown
              have HS := hide (And.intro hL (And.intro hL0 (And.intro hLs (And.intro ht0 hne0))))
              have H0 := hide (And.intro hown (And.intro hownt hB))
              clear hL hL0 hLs ht0 hne0 hown hownt hB hkC
              go_wp2
              go_loopw [13] (fun jv wr => ∃ j : Nat, j ≤ 3 ∧ jv = .int .i64 j ∧ Own encT 9 40 wr V0.heap.size (.slice (some ⟨gs, 0, none⟩) M cs) M (L.set k (turnJ t0 j)) ∧ Own encT 9 40 wr w4.heap.size (.slice At Md ct) Md D ∧ Below V0.heap.size V0 wr) (fun jv _ => 3 - (intOf jv).toNat)
              case atStart => exact ⟨0, by omega, rfl, by rw [HS.out.2.1]; exact H0.out.1, H0.out.2.1, H0.out.2.2⟩
              case round =>
                obtain ⟨j, hj, rfl, hown, hownt, hB⟩ := hrel
                have hzr := hB.size
                by_cases hj3 : j < 3
                · have hlk : (L.set k (turnJ t0 j))[k]? = some (turnJ t0 j) := List.getElem?_set_self hkL
                  obtain ⟨b', o', hbo, hblt, hcl⟩ := (hown.sl encT_len (Nat.le_refl _)).tri hlk
                  cases hbo
                  simp only [Nat.zero_add] at hcl
                  obtain ⟨cs', hcs⟩ := hown.cells gs rfl
                  have hgsr : gs < wr.heap.size := hblt
                  have hc : j = 0 ∨ j = 1 ∨ j = 2 := by omega
                  rcases hc with rfl | rfl | rfl
                  · obtain ⟨p, hp⟩ : ∃ p, p = t0.1 := ⟨_, rfl⟩
                    have g0 : wr.cell? ⟨gs, k * 9, none⟩ = some (.int .i64 p.1) := by rw [hp]; exact hcl.1
                    have g1 : wr.cell? ⟨gs, k * 9 + 1, none⟩ = some (.int .i64 p.2.1) := by rw [hp]; exact hcl.2.1
                    have g2 : wr.cell? ⟨gs, k * 9 + 2, none⟩ = some (.int .i64 p.2.2) := by rw [hp]; exact hcl.2.2.1
                    have HP := hide (And.intro hp (And.intro hown (And.intro hownt hB)))
                    clear hp hcl hown hownt hB hcs
                    go_upto_region 18 with fail
                    obtain ⟨Y, hY⟩ : ∃ Y, Y = wr.alloc (.cells #[.int .i64 p.1, .int .i64 p.2.1, .int .i64 p.2.2] 38) := ⟨_, rfl⟩
                    rw [← hY]
                    have hownY : Own encT 9 40 Y V0.heap.size (.slice (some ⟨gs, 0, none⟩) M cs) M (L.set k (turnJ t0 0)) := by rw [hY]; exact HP.out.2.1.alloc _
                    have howntY : Own encT 9 40 Y w4.heap.size (.slice At Md ct) Md D := by rw [hY]; exact HP.out.2.2.1.alloc _
                    have hBY : Below V0.heap.size V0 Y := by rw [hY]; exact HP.out.2.2.2.alloc HP.out.2.2.2.size _
                    have hbY : Blk Y wr.heap.size 38 #[.int .i64 p.1, .int .i64 p.2.1, .int .i64 p.2.2] := by rw [hY]; exact Blk.new _ _ _
                    have y0 : Y.cell? ⟨wr.heap.size, 0, none⟩ = some (.int .i64 p.1) := hbY.cell 0
                    have y1 : Y.cell? ⟨wr.heap.size, 1, none⟩ = some (.int .i64 p.2.1) := hbY.cell 1
                    have y2 : Y.cell? ⟨wr.heap.size, 2, none⟩ = some (.int .i64 p.2.2) := hbY.cell 2
                    have hlk : (L.set k (turnJ t0 0))[k]? = some (turnJ t0 0) := List.getElem?_set_self hkL
                    obtain ⟨b', o', hbo, _, hcl⟩ := (hownY.sl encT_len (Nat.le_refl _)).tri hlk
                    cases hbo
                    simp only [Nat.zero_add] at hcl
                    have e0 : Y.cell? ⟨gs, k * 9, none⟩ = some (.int .i64 p.1) := by rw [HP.out.1]; exact hcl.1
                    have e1 : Y.cell? ⟨gs, k * 9 + 1, none⟩ = some (.int .i64 p.2.1) := by rw [HP.out.1]; exact hcl.2.1
                    have e2 : Y.cell? ⟨gs, k * 9 + 2, none⟩ = some (.int .i64 p.2.2) := by rw [HP.out.1]; exact hcl.2.2.1
                    obtain ⟨cs', hcs⟩ := hownY.cells gs rfl
                    have f0 := Blk.frozen hcs (k * 9)
                    have f1 := Blk.frozen hcs (k * 9 + 1)
                    have f2 := Blk.frozen hcs (k * 9 + 2)
                    have hput := hownY.putP hlk (j := 0) (by omega) (turnP p)
                    have hset : (L.set k (turnJ t0 0)).set k (putC (turnJ t0 0) 0 (turnP p)) = L.set k (turnJ t0 (0 + 1)) := by
                      rw [List.set_set, HP.out.1]; rfl
                    rw [hset] at hput
                    have hgsne : gs < w4.heap.size := hgs4
                    have htk := howntY.kept (setW_grown gs (encP (turnP p)) Y (k * 9 + 0 * 3)) (.inr (fun e => by
                      rcases hAt with hA | ⟨gt, hA, hgt⟩
                      · rw [hA] at e; cases e
                      · rw [hA] at e; injection e with e; omega))
                    have hBp := setW_below hgsV (encP (turnP p)) Y (k * 9 + 0 * 3) hBY
                    have HY := hide (And.intro hput (And.intro htk hBp))
                    clear hownY howntY hBY hbY hcl hcs hput hset htk hBp hY hlk
                    go_still_tail 11, (by kernel_rfl)
                    change wpList _ _ _ _ _ Y.drew
                    go_wp2
                    go_roundw
                    case rel => exact ⟨0 + 1, by omega, by go_num, HY.out.1, HY.out.2.1, HY.out.2.2.drew⟩
                    case measure => simp [intOf]
                  · obtain ⟨p, hp⟩ : ∃ p, p = t0.2.1 := ⟨_, rfl⟩
                    have g0 : wr.cell? ⟨gs, k * 9 + 3, none⟩ = some (.int .i64 p.1) := by rw [hp]; exact hcl.2.2.2.1
                    have g1 : wr.cell? ⟨gs, k * 9 + 4, none⟩ = some (.int .i64 p.2.1) := by rw [hp]; exact hcl.2.2.2.2.1
                    have g2 : wr.cell? ⟨gs, k * 9 + 5, none⟩ = some (.int .i64 p.2.2) := by rw [hp]; exact hcl.2.2.2.2.2.1
                    have HP := hide (And.intro hp (And.intro hown (And.intro hownt hB)))
                    clear hp hcl hown hownt hB hcs
                    go_upto_region 18 with fail
                    obtain ⟨Y, hY⟩ : ∃ Y, Y = wr.alloc (.cells #[.int .i64 p.1, .int .i64 p.2.1, .int .i64 p.2.2] 38) := ⟨_, rfl⟩
                    rw [← hY]
                    have hownY : Own encT 9 40 Y V0.heap.size (.slice (some ⟨gs, 0, none⟩) M cs) M (L.set k (turnJ t0 1)) := by rw [hY]; exact HP.out.2.1.alloc _
                    have howntY : Own encT 9 40 Y w4.heap.size (.slice At Md ct) Md D := by rw [hY]; exact HP.out.2.2.1.alloc _
                    have hBY : Below V0.heap.size V0 Y := by rw [hY]; exact HP.out.2.2.2.alloc HP.out.2.2.2.size _
                    have hbY : Blk Y wr.heap.size 38 #[.int .i64 p.1, .int .i64 p.2.1, .int .i64 p.2.2] := by rw [hY]; exact Blk.new _ _ _
                    have y0 : Y.cell? ⟨wr.heap.size, 0, none⟩ = some (.int .i64 p.1) := hbY.cell 0
                    have y1 : Y.cell? ⟨wr.heap.size, 1, none⟩ = some (.int .i64 p.2.1) := hbY.cell 1
                    have y2 : Y.cell? ⟨wr.heap.size, 2, none⟩ = some (.int .i64 p.2.2) := hbY.cell 2
                    have hlk : (L.set k (turnJ t0 1))[k]? = some (turnJ t0 1) := List.getElem?_set_self hkL
                    obtain ⟨b', o', hbo, _, hcl⟩ := (hownY.sl encT_len (Nat.le_refl _)).tri hlk
                    cases hbo
                    simp only [Nat.zero_add] at hcl
                    have e0 : Y.cell? ⟨gs, k * 9 + 3, none⟩ = some (.int .i64 p.1) := by rw [HP.out.1]; exact hcl.2.2.2.1
                    have e1 : Y.cell? ⟨gs, k * 9 + 4, none⟩ = some (.int .i64 p.2.1) := by rw [HP.out.1]; exact hcl.2.2.2.2.1
                    have e2 : Y.cell? ⟨gs, k * 9 + 5, none⟩ = some (.int .i64 p.2.2) := by rw [HP.out.1]; exact hcl.2.2.2.2.2.1
                    obtain ⟨cs', hcs⟩ := hownY.cells gs rfl
                    have f0 := Blk.frozen hcs (k * 9 + 3)
                    have f1 := Blk.frozen hcs (k * 9 + 4)
                    have f2 := Blk.frozen hcs (k * 9 + 5)
                    have hput := hownY.putP hlk (j := 1) (by omega) (turnP p)
                    have hset : (L.set k (turnJ t0 1)).set k (putC (turnJ t0 1) 1 (turnP p)) = L.set k (turnJ t0 (1 + 1)) := by
                      rw [List.set_set, HP.out.1]; rfl
                    rw [hset] at hput
                    have hgsne : gs < w4.heap.size := hgs4
                    have htk := howntY.kept (setW_grown gs (encP (turnP p)) Y (k * 9 + 1 * 3)) (.inr (fun e => by
                      rcases hAt with hA | ⟨gt, hA, hgt⟩
                      · rw [hA] at e; cases e
                      · rw [hA] at e; injection e with e; omega))
                    have hBp := setW_below hgsV (encP (turnP p)) Y (k * 9 + 1 * 3) hBY
                    have HY := hide (And.intro hput (And.intro htk hBp))
                    clear hownY howntY hBY hbY hcl hcs hput hset htk hBp hY hlk
                    go_still_tail 11, (by kernel_rfl)
                    change wpList _ _ _ _ _ Y.drew
                    go_wp2
                    go_roundw
                    case rel => exact ⟨1 + 1, by omega, by go_num, HY.out.1, HY.out.2.1, HY.out.2.2.drew⟩
                    case measure => simp [intOf]
                  · obtain ⟨p, hp⟩ : ∃ p, p = t0.2.2 := ⟨_, rfl⟩
                    have g0 : wr.cell? ⟨gs, k * 9 + 6, none⟩ = some (.int .i64 p.1) := by rw [hp]; exact hcl.2.2.2.2.2.2.1
                    have g1 : wr.cell? ⟨gs, k * 9 + 7, none⟩ = some (.int .i64 p.2.1) := by rw [hp]; exact hcl.2.2.2.2.2.2.2.1
                    have g2 : wr.cell? ⟨gs, k * 9 + 8, none⟩ = some (.int .i64 p.2.2) := by rw [hp]; exact hcl.2.2.2.2.2.2.2.2
                    have HP := hide (And.intro hp (And.intro hown (And.intro hownt hB)))
                    clear hp hcl hown hownt hB hcs
                    go_upto_region 18 with fail
                    obtain ⟨Y, hY⟩ : ∃ Y, Y = wr.alloc (.cells #[.int .i64 p.1, .int .i64 p.2.1, .int .i64 p.2.2] 38) := ⟨_, rfl⟩
                    rw [← hY]
                    have hownY : Own encT 9 40 Y V0.heap.size (.slice (some ⟨gs, 0, none⟩) M cs) M (L.set k (turnJ t0 2)) := by rw [hY]; exact HP.out.2.1.alloc _
                    have howntY : Own encT 9 40 Y w4.heap.size (.slice At Md ct) Md D := by rw [hY]; exact HP.out.2.2.1.alloc _
                    have hBY : Below V0.heap.size V0 Y := by rw [hY]; exact HP.out.2.2.2.alloc HP.out.2.2.2.size _
                    have hbY : Blk Y wr.heap.size 38 #[.int .i64 p.1, .int .i64 p.2.1, .int .i64 p.2.2] := by rw [hY]; exact Blk.new _ _ _
                    have y0 : Y.cell? ⟨wr.heap.size, 0, none⟩ = some (.int .i64 p.1) := hbY.cell 0
                    have y1 : Y.cell? ⟨wr.heap.size, 1, none⟩ = some (.int .i64 p.2.1) := hbY.cell 1
                    have y2 : Y.cell? ⟨wr.heap.size, 2, none⟩ = some (.int .i64 p.2.2) := hbY.cell 2
                    have hlk : (L.set k (turnJ t0 2))[k]? = some (turnJ t0 2) := List.getElem?_set_self hkL
                    obtain ⟨b', o', hbo, _, hcl⟩ := (hownY.sl encT_len (Nat.le_refl _)).tri hlk
                    cases hbo
                    simp only [Nat.zero_add] at hcl
                    have e0 : Y.cell? ⟨gs, k * 9 + 6, none⟩ = some (.int .i64 p.1) := by rw [HP.out.1]; exact hcl.2.2.2.2.2.2.1
                    have e1 : Y.cell? ⟨gs, k * 9 + 7, none⟩ = some (.int .i64 p.2.1) := by rw [HP.out.1]; exact hcl.2.2.2.2.2.2.2.1
                    have e2 : Y.cell? ⟨gs, k * 9 + 8, none⟩ = some (.int .i64 p.2.2) := by rw [HP.out.1]; exact hcl.2.2.2.2.2.2.2.2
                    obtain ⟨cs', hcs⟩ := hownY.cells gs rfl
                    have f0 := Blk.frozen hcs (k * 9 + 6)
                    have f1 := Blk.frozen hcs (k * 9 + 7)
                    have f2 := Blk.frozen hcs (k * 9 + 8)
                    have hput := hownY.putP hlk (j := 2) (by omega) (turnP p)
                    have hset : (L.set k (turnJ t0 2)).set k (putC (turnJ t0 2) 2 (turnP p)) = L.set k (turnJ t0 (2 + 1)) := by
                      rw [List.set_set, HP.out.1]; rfl
                    rw [hset] at hput
                    have hgsne : gs < w4.heap.size := hgs4
                    have htk := howntY.kept (setW_grown gs (encP (turnP p)) Y (k * 9 + 2 * 3)) (.inr (fun e => by
                      rcases hAt with hA | ⟨gt, hA, hgt⟩
                      · rw [hA] at e; cases e
                      · rw [hA] at e; injection e with e; omega))
                    have hBp := setW_below hgsV (encP (turnP p)) Y (k * 9 + 2 * 3) hBY
                    have HY := hide (And.intro hput (And.intro htk hBp))
                    clear hownY howntY hBY hbY hcl hcs hput hset htk hBp hY hlk
                    go_still_tail 11, (by kernel_rfl)
                    change wpList _ _ _ _ _ Y.drew
                    go_wp2
                    go_roundw
                    case rel => exact ⟨2 + 1, by omega, by go_num, HY.out.1, HY.out.2.1, HY.out.2.2.drew⟩
                    case measure => simp [intOf]
                · have hj3e : j = 3 := by omega
                  subst hj3e
                  have HE := hide (And.intro hown (And.intro hownt hB))
                  clear hown hownt hB
                  go_wp2
                  go_roundw
                  case rel => exact ⟨k + 1, by omega, by go_num, by rw [← HS.out.2.2.1]; exact HE.out.1, HE.out.2.1, HE.out.2.2⟩
                  case measure => simp [intOf]; omega
            · have hkM : k = M := by omega
              have hmap : (C.take k).map turnT ++ C.drop k = C.map turnT := by
                rw [hkM, HL.out.1, List.take_length, List.drop_length, List.append_nil]
              rw [hmap] at hown
              have hml : (C.map turnT).length = M := by rw [List.length_map, HL.out.1]
              have hsame := same04_any As At cs ct (C.map turnT) D wr (hown.sl encT_len (Nat.le_refl _)) (hownt.sl encT_len (Nat.le_refl _)) (by rw [hml]; omega) (by rw [← HL.out.2.1]; omega) (fun t ht => by
                obtain ⟨u, hu, rfl⟩ := List.mem_map.1 ht
                exact (turn_range (HL.out.2.2.1 u hu)).fit) (fun t ht => (HL.out.2.2.2.1 t ht).fit)
              rw [hml, ← HL.out.2.1, decide_eq_true HL.out.2.2.2.2.1] at hsame
              have HSm := hide (And.intro hsame hB)
              clear hsame hown hownt hB hmap hml
              go_wp2_with fail
              refine HSm.out.1.mono ?_
              rintro e w6 ⟨rfl, hB6⟩
              have hfin : Below w.heap.size w w6 := HL.out.2.2.2.2.2.trans ((HSm.out.2.trans (hB6.mono HSm.out.2.size)).mono HL.out.2.2.2.2.2.size)
              have HFin := hide hfin
              clear hfin hB6
              go_wp2
              go_ret
              exact ⟨rfl, HFin.out⟩
end Go.Proofs.Ytfljcgehhnmamaa
