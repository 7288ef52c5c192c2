/- cluster.gathered at triangles. -/
import Derived.Test.YtgndbpkgehjelaaFin1
import Derived.Test.YtgndbpkgehjelaaGrp
import Derived.Test.YtgndbpkgehjelaaMap
import Derived.Test.YtgndbpkgehjelaaSortP
import Derived.Test.YtgndbpkgehjelaaClone
import Derived.Carry
namespace Go.Proofs.Ytgndbpkgehjelaa
open Go.RowKit Go.Sort Go.Shelf
theorem boxed_below {W W' : World} {B n : Nat} {t : TypeId} {v : Value} (h : Boxed W B t v) (hb : Below n W W') (hB : B < n) : Boxed W' B t v := (hb.block _ hB).trans h
theorem map_below {w w' : World} {b n B : Nat} {m : Pt → Value} (h : MapP w b n m) (hb : Below B w w') (hB : w.heap.size ≤ B) : MapP w' b n m :=
  h.kept (row := none) ⟨hb.os, hb.tape, hb.output, hb.size, fun i hi _ => hb.block i (by omega)⟩ (by simp)
theorem own_not_blk {α : Type} {enc : α → List Value} {k : Nat} {e t : TypeId} {w : World} {base n g : Nat} {v : Value} {xs : List α} {cs : Array Value} (h : Own enc k e w base v n xs) (hb : Blk w g t cs) (hte : t ≠ e) : some g ≠ v.ownBlock := by
  intro e'
  obtain ⟨cs', hc⟩ := h.cells g e'.symm
  unfold Blk at hb
  rw [hb] at hc
  simp at hc
  exact hte hc.2
theorem own_row {α : Type} {enc : α → List Value} {k : Nat} {e t : TypeId} {w : World} {base n : Nat} {v : Value} {xs : List α} (h : Own enc k e w base v n xs) (hte : e ≠ t) : ∀ r, v.ownBlock = some r → r < base ∨ ∀ cs, w.heap[r]? ≠ some (.cells cs t (0, 0)) := by
  intro r hr
  obtain ⟨cs, hc⟩ := h.cells r hr
  refine .inr fun cs' hc' => ?_
  rw [hc] at hc'
  simp at hc'
  exact hte hc'.2
def keyF (b : Int) (t : Tri) : Pt := blockP [t] b false
/-- What gathered has laid behind some elements. -/
def GatT (w : World) (b : Int) (xs : List Tri) (n : Nat) (wr : World) : Prop :=
  ∃ (m : Pt → Value) (v6 : Value), Boxed wr (w.heap.size + 1) 78 (.map (some w.heap.size)) ∧ Boxed wr (w.heap.size + 1 + 1) 72 v6 ∧
    Own encP 3 23 wr (w.heap.size + 3) v6 (keysOf (keyF b) xs).length (keysOf (keyF b) xs) ∧ MapP wr w.heap.size n m ∧ Gps encT 9 26 wr (w.heap.size + 3) m (grp (keyF b) xs) ∧ Below w.heap.size w wr
/-- What gathered leaves behind, b0 being the heap's size when it was called. -/
def GatR (b0 : Nat) (b : Int) (xs : List Tri) (w' : World) : Prop :=
  ∃ (m : Pt → Value) (A6 : Option Addr) (c6 n : Nat), Boxed w' (b0 + 1) 78 (.map (some b0)) ∧ Boxed w' (b0 + 1 + 1) 72 (.slice A6 (keysOf (keyF b) xs).length c6) ∧ (keysOf (keyF b) xs).length ≤ c6 ∧
    (keysOf (keyF b) xs = [] ∧ A6 = none ∨ ∃ g, A6 = some ⟨g, 0, none⟩ ∧ b0 + 3 ≤ g ∧ g < w'.heap.size ∧ Sl encP 3 w' w'.heap.size (some ⟨g, 0, none⟩) (sortP (keysOf (keyF b) xs))) ∧
    MapP w' b0 n m ∧ Gps encT 9 26 w' (b0 + 3) m (grp (keyF b) xs)
set_option maxRecDepth 100000 in
set_option maxHeartbeats 2000000 in
theorem gat_any (A : Option Addr) (c : Nat) (ts : List Tri) (bb : Nat) (b : Int) (w : World) (hs : Sl encT 9 w w.heap.size A ts) (hl : ts.length ≤ 4294967296) (hft : ∀ t ∈ ts, fitsT t)
    (hb : w.cell? ⟨bb, 0, none⟩ = some (.int .i64 b)) (hbb : bb < w.heap.size) :
    Calls Try.prog 39 #[.slice A ts.length c, .func (.func 40) #[] #[.pointer (some ⟨bb, 0, none⟩)]] w fun e w' =>
      e = .returned (.func (.func 54) #[] #[.pointer (some ⟨w.heap.size + 1 + 1, 0, none⟩), .pointer (some ⟨w.heap.size + 1, 0, none⟩)]) ∧ GatR w.heap.size b ts w' ∧ Below w.heap.size w w' := by
  have hmm := @run_makeMap Try.prog
  go_enter Try.func39, Try.ntmps39
  go_wp2
  clear hmm
  go_loopw [13] (fun i wr => ∃ k : Nat, k ≤ ts.length ∧ i = .int .i64 k ∧ GatT w b (ts.take k) k wr) (fun i _ => ts.length - (intOf i).toNat)
  case atStart =>
    refine ⟨0, Nat.zero_le _, rfl, _, _, ?_, ?_, Own.nil, ?_, Gps.nil, ?_⟩
    · have h0 := Boxed.new (w.alloc (.map #[] 0)) 78 (.map (some w.heap.size))
      rw [World.size_alloc] at h0
      exact h0.alloc _
    · have h0 := Boxed.new ((w.alloc (.map #[] 0)).alloc (.cells #[.map (some w.heap.size)] 78)) 72 (.slice none 0 0)
      rwa [World.size_alloc, World.size_alloc] at h0
    · have h0 := MapP.made w
      have h1 := h0.kept (World.grownBy_alloc _ (.cells #[.map (some w.heap.size)] 78) none) (by simp)
      exact h1.kept (World.grownBy_alloc _ (.cells #[.slice none 0 0] 72) none) (by simp)
    · exact (((Below.refl _ w).alloc (Nat.le_refl _) _).alloc (by simp) _).alloc (by simp; omega) _
  case round =>
    obtain ⟨k, hk, rfl, m, v6, hb5, hb6, ho6, hmp, hgp, hB⟩ := hrel
    by_cases hlt : k < ts.length
    · obtain ⟨u, hu⟩ : ∃ u, ts[k]? = some u := ⟨_, List.getElem?_eq_getElem hlt⟩
      obtain ⟨bA, oA, hA, hbA, g0, g1, g2, g3, g4, g5, g6, g7, g8⟩ := (hs.below hB).tri hu
      subst hA
      have hcb := (hB.cell (p := ⟨bb, 0, none⟩) hbb).trans hb
      have hfu : fitsT u := hft u (List.mem_of_getElem? hu)
      have hsz : w.heap.size + 3 ≤ wr.heap.size := by have := hb6.lt; omega
      have H := hide (And.intro hb5 (And.intro hb6 (And.intro ho6 (And.intro hmp (And.intro hgp (And.intro hB (And.intro hu (And.intro hs hb))))))))
      clear hb5 hb6 ho6 hmp hgp hB hu hs hb
      go_wp2_with fail
      obtain ⟨X0, hX0⟩ : ∃ X0, X0 = wr.alloc (.cells #[.int .i64 u.1.1, .int .i64 u.1.2.1, .int .i64 u.1.2.2, .int .i64 u.2.1.1, .int .i64 u.2.1.2.1, .int .i64 u.2.1.2.2, .int .i64 u.2.2.1, .int .i64 u.2.2.2.1, .int .i64 u.2.2.2.2] 26) := ⟨_, rfl⟩
      have hBX : Below wr.heap.size wr X0 := by rw [hX0]; exact (Below.refl _ wr).alloc (Nat.le_refl _) _
      have hbx0 : Blk X0 wr.heap.size 26 #[.int .i64 u.1.1, .int .i64 u.1.2.1, .int .i64 u.1.2.2, .int .i64 u.2.1.1, .int .i64 u.2.1.2.1, .int .i64 u.2.1.2.2, .int .i64 u.2.2.1, .int .i64 u.2.2.2.1, .int .i64 u.2.2.2.2] := by rw [hX0]; exact Blk.new _ _ _
      have hszX : X0.heap.size = wr.heap.size + 1 := by rw [hX0]; simp
      rw [← hX0]
      refine (fin1_any u hfu bb b X0 ((hBX.cell (p := ⟨bb, 0, none⟩) (by simp; omega)).trans hcb) (by omega)).mono ?_
      rintro e w1 ⟨rfl, hB1⟩
      clear hX0
      obtain ⟨p, hp⟩ : ∃ p, p = blockP [u] b false := ⟨_, rfl⟩
      rw [← hp]
      have hpf : fitsP p := by rw [hp]; exact fitsP_block (fun t ht => by simp at ht; subst ht; exact hfu) b false
      have HP := hide hp
      have HPF := hide hpf
      have hBw : Below wr.heap.size wr w1 := hBX.trans (hB1.mono (by omega))
      have hsz1 : wr.heap.size + 1 ≤ w1.heap.size := by have := hB1.size; omega
      -- the world behind p's variable
      obtain ⟨W2, hW2⟩ : ∃ W2, W2 = w1.alloc (.cells #[.int .i64 p.1, .int .i64 p.2.1, .int .i64 p.2.2] 23) := ⟨_, rfl⟩
      have hB2 : Below wr.heap.size wr W2 := by rw [hW2]; exact hBw.alloc (by omega) _
      have h25 : Boxed W2 (w.heap.size + 1) 78 (.map (some w.heap.size)) := boxed_below H.out.1 hB2 (by omega)
      have h26 : Boxed W2 (w.heap.size + 1 + 1) 72 v6 := boxed_below H.out.2.1 hB2 (by omega)
      have h2o := H.out.2.2.1.below hB2 (Nat.le_refl _)
      have h2m := map_below H.out.2.2.2.1 hB2 (Nat.le_refl _)
      have h2g := H.out.2.2.2.2.1.below hB2 (Nat.le_refl _)
      have h2B : Below w.heap.size w W2 := H.out.2.2.2.2.2.1.trans (hB2.mono (by omega))
      have h2p : Blk W2 w1.heap.size 23 #[.int .i64 p.1, .int .i64 p.2.1, .int .i64 p.2.2] := by rw [hW2]; exact Blk.new _ _ _
      have h2x : Blk W2 wr.heap.size 26 #[.int .i64 u.1.1, .int .i64 u.1.2.1, .int .i64 u.1.2.2, .int .i64 u.2.1.1, .int .i64 u.2.1.2.1, .int .i64 u.2.1.2.2, .int .i64 u.2.2.1, .int .i64 u.2.2.2.1, .int .i64 u.2.2.2.2] := by rw [hW2]; exact (hbx0.below hB1 (by omega)).alloc _
      have hsz2 : W2.heap.size = w1.heap.size + 1 := by rw [hW2]; simp
      have hqs := fun A n c => run_eql_slice_nil W2 27 26 A n c Try.underlying27
      have hlk := h2m.lookup (t := 78) (e := 27) Try.underlying78 rfl p hpf
      have c25 := h25.cell
      have c26 := h26.cell
      have f26 := h26.frozen
      obtain ⟨A6, n6, rfl⟩ := h2o.form
      have hkl : (keysOf (keyF b) (ts.take k)).length ≤ k := Nat.le_trans (keysOf_length _ _) (by simp; omega)
      by_cases hin : p ∈ keysOf (keyF b) (ts.take k)
      · -- a known point
        have hgne : grp (keyF b) (ts.take k) p ≠ [] := fun e => (grp_nil (keyF b)).1 e hin
        obtain ⟨gm, cm, hmv, _, _⟩ := (h2g.1 p).at hgne
        rw [hmv] at hlk
        clear hmv
        rw [hW2] at hlk c25 hqs
        have HL := hide (And.intro h25 (And.intro h26 (And.intro h2o (And.intro h2m (And.intro h2g (And.intro h2B (And.intro h2p h2x)))))))
        have HW2 := hide hW2
        clear h25 h26 h2o h2m h2g h2B h2p h2x hW2 hp hpf hB1 hBX hB2 hBw hbx0 c26 f26 hgne
        go_wp2_with fail
        clear hlk c25 hqs
        rw [← HW2.out]
        obtain ⟨V, hV⟩ : ∃ V, V = W2 := ⟨_, rfl⟩
        rw [← hV] at HL ⊢
        have hV5 := HL.out.1
        have hV6 := HL.out.2.1
        have hVo6 := HL.out.2.2.1
        have hVm := HL.out.2.2.2.1
        have hVg := HL.out.2.2.2.2.1
        have hVB := HL.out.2.2.2.2.2.1
        have hVp := HL.out.2.2.2.2.2.2.1
        have hVx := HL.out.2.2.2.2.2.2.2
        have hVsz : w.heap.size + 3 ≤ V.heap.size := by rw [hV]; omega
        clear HL HW2 hV hsz2
        have cV5 := hV5.cell
        have cp0 := hVp.cell 0
        have cp1 := hVp.cell 1
        have cp2 := hVp.cell 2
        have cx0 := hVx.cell 0
        have cx1 := hVx.cell 1
        have cx2 := hVx.cell 2
        have cx3 := hVx.cell 3
        have cx4 := hVx.cell 4
        have cx5 := hVx.cell 5
        have cx6 := hVx.cell 6
        have cx7 := hVx.cell 7
        have cx8 := hVx.cell 8
        simp only [List.getElem?_toArray, List.getElem?_cons_zero, List.getElem?_cons_succ] at cp0 cp1 cp2 cx0 cx1 cx2 cx3 cx4 cx5 cx6 cx7 cx8
        have hzl : ∀ W, (zeroValue 27).run Try.prog W = .ok (.slice none 0 0) W := fun _ => rfl
        have hVo := hVg.1 p
        obtain ⟨mA, mc, hme⟩ := hVo.form
        have HV := hide (And.intro hV5 (And.intro hV6 (And.intro hVo6 (And.intro hVm (And.intro hVg (And.intro hVB (And.intro hVp hVx)))))))
        have HM := hide hme
        have hszV : w.heap.size + 3 ≤ V.heap.size := hVsz
        have hsV : w1.heap.size < V.heap.size := hVp.lt
        have hsV2 : wr.heap.size < V.heap.size := hVx.lt
        have hS : V.drew.cell? ⟨w.heap.size + 1, 0, none⟩ = some (.map (some w.heap.size)) ∧ (V.drew.cell? ⟨w1.heap.size, 0, none⟩ = some (.int .i64 p.1) ∧ V.drew.cell? ⟨w1.heap.size, 1, none⟩ = some (.int .i64 p.2.1) ∧ V.drew.cell? ⟨w1.heap.size, 2, none⟩ = some (.int .i64 p.2.2)) ∧ MapP V.drew w.heap.size k m := ⟨cV5, ⟨cp0, cp1, cp2⟩, hVm⟩
        have HSd := hide hS
        clear hV5 hV6 hVo6 hVm hVg hVB hVp hVx hme hS
        go_wp2_with fail
        refine wp_region_mix (fun w' => w'.cell? ⟨w.heap.size + 1, 0, none⟩ = some (.map (some w.heap.size)) ∧ (w'.cell? ⟨w1.heap.size, 0, none⟩ = some (.int .i64 p.1) ∧ w'.cell? ⟨w1.heap.size, 1, none⟩ = some (.int .i64 p.2.1) ∧ w'.cell? ⟨w1.heap.size, 2, none⟩ = some (.int .i64 p.2.2)) ∧ MapP w' w.heap.size k m) [0, 1, 2, 3, 4] [0, 1, 2, 3, 4, 5, 6, 7, 8] mixed_ok (by kernel_rfl) ?_
        refine wpMix_q (v := .map (some w.heap.size)) rfl rfl (fun _ _ _ h => h) HSd.out ⟨rfl, fun W' h' => by simp [go_sem, h'.1]⟩ ?_
        refine wpMix_q (v := vP p) rfl rfl (fun _ _ _ h => h) HSd.out ⟨rfl, fun W' h' => by simp [go_sem, h'.2.1.1, h'.2.1.2.1, h'.2.1.2.2]⟩ ?_
        refine wpMix_q (v := .map (some w.heap.size)) rfl rfl (fun _ _ _ h => h) HSd.out ⟨rfl, fun W' h' => by simp [go_sem, h'.1]⟩ ?_
        refine wpMix_q (v := vP p) rfl rfl (fun _ _ _ h => h) HSd.out ⟨rfl, fun W' h' => by simp [go_sem, h'.2.1.1, h'.2.1.2.1, h'.2.1.2.2]⟩ ?_
        refine wpMix_q (v := m p) rfl rfl (fun _ _ _ h => h) HSd.out ⟨rfl, fun W' h' => by simp [execOp, go_sem, h'.2.2.lookup Try.underlying78 (hzl W') p HPF.out]⟩ ?_
        refine wpMix_n rfl rfl ?_
        go_wp2_with fail
        refine ⟨fun _ => HSd.out, ?_⟩
        refine wpMix_n rfl rfl ?_
        go_wp2_with fail
        have hal : Below V.heap.size V (V.alloc (.cells #[.int .i64 u.1.1, .int .i64 u.1.2.1, .int .i64 u.1.2.2, .int .i64 u.2.1.1, .int .i64 u.2.1.2.1, .int .i64 u.2.1.2.2, .int .i64 u.2.2.1, .int .i64 u.2.2.2.1, .int .i64 u.2.2.2.2] 26)).drew := ((Below.refl _ V).alloc (Nat.le_refl _) _).drew
        have hS6 : (V.alloc (.cells #[.int .i64 u.1.1, .int .i64 u.1.2.1, .int .i64 u.1.2.2, .int .i64 u.2.1.1, .int .i64 u.2.1.2.1, .int .i64 u.2.1.2.2, .int .i64 u.2.2.1, .int .i64 u.2.2.2.1, .int .i64 u.2.2.2.2] 26)).drew.cell? ⟨w.heap.size + 1, 0, none⟩ = some (.map (some w.heap.size)) ∧ ((V.alloc (.cells #[.int .i64 u.1.1, .int .i64 u.1.2.1, .int .i64 u.1.2.2, .int .i64 u.2.1.1, .int .i64 u.2.1.2.1, .int .i64 u.2.1.2.2, .int .i64 u.2.2.1, .int .i64 u.2.2.2.1, .int .i64 u.2.2.2.2] 26)).drew.cell? ⟨w1.heap.size, 0, none⟩ = some (.int .i64 p.1) ∧ (V.alloc (.cells #[.int .i64 u.1.1, .int .i64 u.1.2.1, .int .i64 u.1.2.2, .int .i64 u.2.1.1, .int .i64 u.2.1.2.1, .int .i64 u.2.1.2.2, .int .i64 u.2.2.1, .int .i64 u.2.2.2.1, .int .i64 u.2.2.2.2] 26)).drew.cell? ⟨w1.heap.size, 1, none⟩ = some (.int .i64 p.2.1) ∧ (V.alloc (.cells #[.int .i64 u.1.1, .int .i64 u.1.2.1, .int .i64 u.1.2.2, .int .i64 u.2.1.1, .int .i64 u.2.1.2.1, .int .i64 u.2.1.2.2, .int .i64 u.2.2.1, .int .i64 u.2.2.2.1, .int .i64 u.2.2.2.2] 26)).drew.cell? ⟨w1.heap.size, 2, none⟩ = some (.int .i64 p.2.2)) ∧ MapP (V.alloc (.cells #[.int .i64 u.1.1, .int .i64 u.1.2.1, .int .i64 u.1.2.2, .int .i64 u.2.1.1, .int .i64 u.2.1.2.1, .int .i64 u.2.1.2.2, .int .i64 u.2.2.1, .int .i64 u.2.2.2.1, .int .i64 u.2.2.2.2] 26)).drew w.heap.size k m :=
          ⟨(hal.cell (p := ⟨w.heap.size + 1, 0, none⟩) (show w.heap.size + 1 < V.heap.size by omega)).trans cV5, ⟨(hal.cell (p := ⟨w1.heap.size, 0, none⟩) hsV).trans cp0, (hal.cell (p := ⟨w1.heap.size, 1, none⟩) hsV).trans cp1, (hal.cell (p := ⟨w1.heap.size, 2, none⟩) hsV).trans cp2⟩, map_below HV.out.2.2.2.1 hal (Nat.le_refl _)⟩
        have HS6 := hide hS6
        clear hS6
        refine ⟨fun _ => HS6.out, ?_⟩
        have hg6 : Gps encT 9 26 (V.alloc (.cells #[.int .i64 u.1.1, .int .i64 u.1.2.1, .int .i64 u.1.2.2, .int .i64 u.2.1.1, .int .i64 u.2.1.2.1, .int .i64 u.2.1.2.2, .int .i64 u.2.2.1, .int .i64 u.2.2.2.1, .int .i64 u.2.2.2.2] 26)).drew (w.heap.size + 3) m (grp (keyF b) (ts.take k)) := HV.out.2.2.2.2.1.below hal (Nat.le_refl _)
        have hgl : (grp (keyF b) (ts.take k) p).length ≤ k := Nat.le_trans (grp_length _ _ _) (by simp; omega)
        have hom := hg6.1 p
        have HG6 := hide hg6
        clear hg6
        refine wpMix_n rfl rfl ?_
        rw [HM.out] at hom ⊢
        obtain ⟨ng, hng⟩ : ∃ ng, ng = (grp (keyF b) (ts.take k) p).length := ⟨_, rfl⟩
        rw [← hng] at hom hgl ⊢
        have HNG := hide hng
        clear hng
        simp only [List.getElem_toArray, List.getElem_cons_succ, List.getElem_cons_zero]
        refine wpList_append1 rfl _ _ _ rfl Try.underlying27 infoT rfl (by omega) encT_len encT_one rfl hom V.heap.size 1 u rfl (Blk.new V _ _).drew (by unfold maxLen; omega) (by omega) (by simp [World.drew]; omega) ?_; intro g cap w6 hown6 hg6 hB6 hat6 hgb6 hlt6
        have hgY : Gps encT 9 26 (V.alloc (.cells #[.int .i64 u.1.1, .int .i64 u.1.2.1, .int .i64 u.1.2.2, .int .i64 u.2.1.1, .int .i64 u.2.1.2.1, .int .i64 u.2.1.2.2, .int .i64 u.2.2.1, .int .i64 u.2.2.2.1, .int .i64 u.2.2.2.2] 26)).drew (w.heap.size + 3) m (grp (keyF b) (ts.take k)) := HG6.out
        have hpY : Blk (V.alloc (.cells #[.int .i64 u.1.1, .int .i64 u.1.2.1, .int .i64 u.1.2.2, .int .i64 u.2.1.1, .int .i64 u.2.1.2.1, .int .i64 u.2.1.2.2, .int .i64 u.2.2.1, .int .i64 u.2.2.2.1, .int .i64 u.2.2.2.2] 26)).drew w1.heap.size 23 #[.int .i64 p.1, .int .i64 p.2.1, .int .i64 p.2.2] := (HV.out.2.2.2.2.2.2.1.alloc _).drew
        have hoY : Own encT 9 26 (V.alloc (.cells #[.int .i64 u.1.1, .int .i64 u.1.2.1, .int .i64 u.1.2.2, .int .i64 u.2.1.1, .int .i64 u.2.1.2.1, .int .i64 u.2.1.2.2, .int .i64 u.2.2.1, .int .i64 u.2.2.2.1, .int .i64 u.2.2.2.2] 26)).drew (w.heap.size + 3) (.slice mA ng mc) ng (grp (keyF b) (ts.take k) p) := hom
        have hp6 := hpY.grown hg6 (own_not_blk hoY hpY (by decide))
        have hb65 : Boxed w6 (w.heap.size + 1) 78 (.map (some w.heap.size)) := boxed_below (boxed_below HV.out.1 hal (by omega)) hB6 (by omega)
        have hb66 := boxed_below (boxed_below HV.out.2.1 hal (by omega)) hB6 (by omega)
        have ho66 := (HV.out.2.2.1.below hal (Nat.le_refl _)).step hg6 (own_row hoY (by decide))
        have hm6 : MapP w6 w.heap.size k m := HS6.out.2.2.kept hg6 (fun e' => by have := (hoY.blk _ e'.symm).1; omega)
        have hgm : (m p).ownBlock = (Value.slice mA ng mc).ownBlock := by rw [HM.out, ← HNG.out]
        have hg66 := hgY.append p u (v' := .slice (some ⟨g, 0, none⟩) (ng + 1) cap) (n := ng + 1) (g := g) (by rw [hgm]; exact hg6) hown6 rfl (by rw [hgm]; exact hat6)
        have hB66 : Below w.heap.size w w6 := (HV.out.2.2.2.2.2.1.trans (hal.mono (by omega))).trans (hB6.mono (by omega))
        obtain ⟨w7, hrun, hm7, hg7⟩ := hm6.update (t := 78) (e := 27) Try.underlying78 (by unfold maxLen; omega) p HPF.out (.slice (some ⟨g, 0, none⟩) (ng + 1) cap)
        have q0 := hp6.cell 0
        have q1 := hp6.cell 1
        have q2 := hp6.cell 2
        simp only [List.getElem?_toArray, List.getElem?_cons_zero, List.getElem?_cons_succ] at q0 q1 q2
        have HQ := hide (And.intro hb65 (And.intro hb66 (And.intro ho66 (And.intro hm7 (And.intro hg7 (And.intro hg66 hB66))))))
        have c65 := hb65.cell
        go_wp2_with fail
        refine ⟨fun _ => ⟨c65, ⟨q0, q1, q2⟩, hm6⟩, ?_⟩
        refine wpMix_tail _ [_] (by kernel_rfl) rfl ?_
        simp only [List.getElem_toArray, List.getElem_cons_succ, List.getElem_cons_zero]
        clear hb65 hb66 ho66 hm7 hg7 hg66 hB66 c65 q0 q1 q2 hm6 hgm hp6 hoY hpY hgY hom hown6 hg6 hB6 hal cV5 cp0 cp1 cp2 cx0 cx1 cx2 cx3 cx4 cx5 cx6 cx7 cx8
        go_wp2
        go_roundw
        case rel =>
          have htk : ts.take (k + 1) = ts.take k ++ [u] := by rw [List.take_add_one, H.out.2.2.2.2.2.2.1]; rfl
          have hkp : keyF b u = p := HP.out.symm
          refine ⟨k + 1, by omega, by go_num, _, _, HQ.out.1.kept HQ.out.2.2.2.2.1 (fun e => by injection e with e; omega), HQ.out.2.1.kept HQ.out.2.2.2.2.1 (fun e => by injection e with e; omega), ?_, HQ.out.2.2.2.1, ?_, ?_⟩
          · rw [htk, keysOf_snoc, hkp]
            unfold addKey
            rw [if_pos hin]
            exact HQ.out.2.2.1.step HQ.out.2.2.2.2.1 (fun r e => .inl (by cases e; omega))
          · rw [htk]
            have hf : grp (keyF b) (ts.take k ++ [u]) = fun q => if q = p then grp (keyF b) (ts.take k) p ++ [u] else grp (keyF b) (ts.take k) q := by
              funext q
              rw [grp_snoc, hkp]
              by_cases hq : q = p
              · subst hq; simp
              · simp [hq]
            rw [hf]
            exact HQ.out.2.2.2.2.2.1.step HQ.out.2.2.2.2.1 (fun r e => .inl (by cases e; omega))
          · exact HQ.out.2.2.2.2.2.2.grown HQ.out.2.2.2.2.1 (by have := HQ.out.2.2.2.2.2.2.size; omega) (fun r e => by cases e; exact Nat.le_refl _)
        case measure => simp [intOf]; omega
      · -- a new point
        have hmv : m p = .slice none 0 0 := h2g.2.2 p ((grp_nil (keyF b)).2 hin)
        rw [hmv] at hlk
        clear hmv
        obtain ⟨Y2, hY2⟩ : ∃ Y2, Y2 = W2.alloc (.cells #[.int .i64 p.1, .int .i64 p.2.1, .int .i64 p.2.2] 23) := ⟨_, rfl⟩
        have hgY : W2.grownBy Y2 none := by rw [hY2]; exact World.grownBy_alloc _ _ _
        have hBY : Below W2.heap.size W2 Y2 := by rw [hY2]; exact (Below.refl _ W2).alloc (Nat.le_refl _) _
        have hyo := h2o.below hBY (Nat.le_refl _)
        have hyp : Blk Y2 (w1.heap.size + 1) 23 #[.int .i64 p.1, .int .i64 p.2.1, .int .i64 p.2.2] := by rw [hY2]; exact Blk.new' _ _ _ _ (by omega)
        have hszY : Y2.heap.size = w1.heap.size + 2 := by rw [hY2]; simp; omega
        have hbx := boxed_below h26 hBY (by omega)
        have hY2' := hY2
        rw [hW2] at hY2' hlk c25 hqs c26 f26
        have HL := hide (And.intro h25 (And.intro h26 (And.intro h2o (And.intro h2m (And.intro h2g (And.intro h2B (And.intro h2p (And.intro h2x hBY))))))))
        have HW2 := hide hW2
        have hyo' := hyo
        have hyp' := hyp
        have hbx' := hbx
        rw [hY2'] at hyo' hyp' hbx'
        have HY := hide (And.intro hyo (And.intro hyp hbx))
        have HY2 := hide hY2'
        clear h25 h26 h2o h2m h2g h2B h2p h2x hW2 hp hpf hB1 hBX hB2 hBw hbx0 hY2 hY2' hyo hyp hbx hBY hgY
        go_wp2_with (at_builtin; refine wpList_append1 rfl _ _ _ rfl Try.underlying72 infoP rfl (by omega) encP_len encP_one rfl hyo' (w1.heap.size + 1) 1 p rfl hyp' (by unfold maxLen; omega) (by omega) (by simp; omega) ?_; intro g3 cap3 w3 hown3 hg3 hB3 hat3 hgb3 hlt3; have hbx3 := hbx'.kept hg3 (hbx'.not_row (by decide) hyo'.2); have c36 := hbx3.cell; have f36 := hbx3.frozen)
        have hg3' : Y2.grownBy w3 (Value.slice A6 (keysOf (keyF b) (ts.take k)).length n6).ownBlock := by rw [HY2.out]; exact hg3
        obtain ⟨V, hV⟩ : ∃ V, V = w3.setCell ⟨w.heap.size + 1 + 1, 0, none⟩ (.slice (some ⟨g3, 0, none⟩) ((keysOf (keyF b) (ts.take k)).length + 1) cap3) := ⟨_, rfl⟩
        rw [← hV]
        have hgV : w3.grownBy V (some (w.heap.size + 1 + 1)) := by rw [hV]; exact grownBy_setCell' _ _ _
        have hYB : Below W2.heap.size W2 Y2 := HL.out.2.2.2.2.2.2.2.2
        have hrow := own_row (t := 26) HY.out.1 (by decide)
        have hV6 : Boxed V (w.heap.size + 1 + 1) 72 (.slice (some ⟨g3, 0, none⟩) ((keysOf (keyF b) (ts.take k)).length + 1) cap3) := by rw [hV]; exact hbx3.set _
        have hy5 : Boxed Y2 (w.heap.size + 1) 78 (.map (some w.heap.size)) := boxed_below HL.out.1 hYB (by omega)
        have hV5 : Boxed V (w.heap.size + 1) 78 (.map (some w.heap.size)) := (hy5.kept hg3' (hy5.not_row (by decide) HY.out.1.2)).kept hgV (fun e => by injection e with e; omega)
        have hVo6 := hown3.step hgV (fun r e => .inl (by cases e; omega))
        have hVm : MapP V w.heap.size k m := ((map_below HL.out.2.2.2.1 hYB (Nat.le_refl _)).kept hg3' (fun e => by have := (HY.out.1.blk _ e.symm).1; omega)).kept hgV (fun e => by injection e with e; omega)
        have hVg : Gps encT 9 26 V (w.heap.size + 3) m (grp (keyF b) (ts.take k)) := ((HL.out.2.2.2.2.1.below hYB (Nat.le_refl _)).step hg3' hrow).step hgV (fun r e => .inl (by cases e; omega))
        have hVB : Below w.heap.size w V := ((HL.out.2.2.2.2.2.1.trans (hYB.mono (by omega))).grown hg3' (by omega) (fun r e => by have := (HY.out.1.blk _ e).1; omega)).grown hgV (by have := hg3'.size; omega) (fun r e => by cases e; omega)
        have hold : ∀ r, (Value.slice A6 (keysOf (keyF b) (ts.take k)).length n6).ownBlock = some r → r < wr.heap.size := fun r e => (H.out.2.2.1.blk _ e).2
        have hVp : Blk V w1.heap.size 23 #[.int .i64 p.1, .int .i64 p.2.1, .int .i64 p.2.2] := ((HL.out.2.2.2.2.2.2.1.below hYB (by omega)).grown hg3' (fun e => by have := hold _ e.symm; omega)).grown hgV (fun e => by injection e with e; omega)
        have hVx : Blk V wr.heap.size 26 #[.int .i64 u.1.1, .int .i64 u.1.2.1, .int .i64 u.1.2.2, .int .i64 u.2.1.1, .int .i64 u.2.1.2.1, .int .i64 u.2.1.2.2, .int .i64 u.2.2.1, .int .i64 u.2.2.2.1, .int .i64 u.2.2.2.2] := ((HL.out.2.2.2.2.2.2.2.1.below hYB (by omega)).grown hg3' (fun e => by have := hold _ e.symm; omega)).grown hgV (fun e => by injection e with e; omega)
        have hVsz : w.heap.size + 3 ≤ V.heap.size := by have := hg3'.size; have := hgV.size; omega
        clear HL HW2 hV hsz2 hgV hYB hrow hy5 hg3' hg3 hB3 hown3 hbx3 c36 f36 hbx' hyo' hyp' HY HY2 hold hlk c25 hqs c26 f26
        have cV5 := hV5.cell
        have cp0 := hVp.cell 0
        have cp1 := hVp.cell 1
        have cp2 := hVp.cell 2
        have cx0 := hVx.cell 0
        have cx1 := hVx.cell 1
        have cx2 := hVx.cell 2
        have cx3 := hVx.cell 3
        have cx4 := hVx.cell 4
        have cx5 := hVx.cell 5
        have cx6 := hVx.cell 6
        have cx7 := hVx.cell 7
        have cx8 := hVx.cell 8
        simp only [List.getElem?_toArray, List.getElem?_cons_zero, List.getElem?_cons_succ] at cp0 cp1 cp2 cx0 cx1 cx2 cx3 cx4 cx5 cx6 cx7 cx8
        have hzl : ∀ W, (zeroValue 27).run Try.prog W = .ok (.slice none 0 0) W := fun _ => rfl
        have hVo := hVg.1 p
        obtain ⟨mA, mc, hme⟩ := hVo.form
        have HV := hide (And.intro hV5 (And.intro hV6 (And.intro hVo6 (And.intro hVm (And.intro hVg (And.intro hVB (And.intro hVp hVx)))))))
        have HM := hide hme
        have hszV : w.heap.size + 3 ≤ V.heap.size := hVsz
        have hsV : w1.heap.size < V.heap.size := hVp.lt
        have hsV2 : wr.heap.size < V.heap.size := hVx.lt
        have hS : V.drew.cell? ⟨w.heap.size + 1, 0, none⟩ = some (.map (some w.heap.size)) ∧ (V.drew.cell? ⟨w1.heap.size, 0, none⟩ = some (.int .i64 p.1) ∧ V.drew.cell? ⟨w1.heap.size, 1, none⟩ = some (.int .i64 p.2.1) ∧ V.drew.cell? ⟨w1.heap.size, 2, none⟩ = some (.int .i64 p.2.2)) ∧ MapP V.drew w.heap.size k m := ⟨cV5, ⟨cp0, cp1, cp2⟩, hVm⟩
        have HSd := hide hS
        clear hV5 hV6 hVo6 hVm hVg hVB hVp hVx hme hS
        go_wp2_with fail
        refine wp_region_mix (fun w' => w'.cell? ⟨w.heap.size + 1, 0, none⟩ = some (.map (some w.heap.size)) ∧ (w'.cell? ⟨w1.heap.size, 0, none⟩ = some (.int .i64 p.1) ∧ w'.cell? ⟨w1.heap.size, 1, none⟩ = some (.int .i64 p.2.1) ∧ w'.cell? ⟨w1.heap.size, 2, none⟩ = some (.int .i64 p.2.2)) ∧ MapP w' w.heap.size k m) [0, 1, 2, 3, 4] [0, 1, 2, 3, 4, 5, 6, 7, 8] mixed_ok (by kernel_rfl) ?_
        refine wpMix_q (v := .map (some w.heap.size)) rfl rfl (fun _ _ _ h => h) HSd.out ⟨rfl, fun W' h' => by simp [go_sem, h'.1]⟩ ?_
        refine wpMix_q (v := vP p) rfl rfl (fun _ _ _ h => h) HSd.out ⟨rfl, fun W' h' => by simp [go_sem, h'.2.1.1, h'.2.1.2.1, h'.2.1.2.2]⟩ ?_
        refine wpMix_q (v := .map (some w.heap.size)) rfl rfl (fun _ _ _ h => h) HSd.out ⟨rfl, fun W' h' => by simp [go_sem, h'.1]⟩ ?_
        refine wpMix_q (v := vP p) rfl rfl (fun _ _ _ h => h) HSd.out ⟨rfl, fun W' h' => by simp [go_sem, h'.2.1.1, h'.2.1.2.1, h'.2.1.2.2]⟩ ?_
        refine wpMix_q (v := m p) rfl rfl (fun _ _ _ h => h) HSd.out ⟨rfl, fun W' h' => by simp [execOp, go_sem, h'.2.2.lookup Try.underlying78 (hzl W') p HPF.out]⟩ ?_
        refine wpMix_n rfl rfl ?_
        go_wp2_with fail
        refine ⟨fun _ => HSd.out, ?_⟩
        refine wpMix_n rfl rfl ?_
        go_wp2_with fail
        have hal : Below V.heap.size V (V.alloc (.cells #[.int .i64 u.1.1, .int .i64 u.1.2.1, .int .i64 u.1.2.2, .int .i64 u.2.1.1, .int .i64 u.2.1.2.1, .int .i64 u.2.1.2.2, .int .i64 u.2.2.1, .int .i64 u.2.2.2.1, .int .i64 u.2.2.2.2] 26)).drew := ((Below.refl _ V).alloc (Nat.le_refl _) _).drew
        have hS6 : (V.alloc (.cells #[.int .i64 u.1.1, .int .i64 u.1.2.1, .int .i64 u.1.2.2, .int .i64 u.2.1.1, .int .i64 u.2.1.2.1, .int .i64 u.2.1.2.2, .int .i64 u.2.2.1, .int .i64 u.2.2.2.1, .int .i64 u.2.2.2.2] 26)).drew.cell? ⟨w.heap.size + 1, 0, none⟩ = some (.map (some w.heap.size)) ∧ ((V.alloc (.cells #[.int .i64 u.1.1, .int .i64 u.1.2.1, .int .i64 u.1.2.2, .int .i64 u.2.1.1, .int .i64 u.2.1.2.1, .int .i64 u.2.1.2.2, .int .i64 u.2.2.1, .int .i64 u.2.2.2.1, .int .i64 u.2.2.2.2] 26)).drew.cell? ⟨w1.heap.size, 0, none⟩ = some (.int .i64 p.1) ∧ (V.alloc (.cells #[.int .i64 u.1.1, .int .i64 u.1.2.1, .int .i64 u.1.2.2, .int .i64 u.2.1.1, .int .i64 u.2.1.2.1, .int .i64 u.2.1.2.2, .int .i64 u.2.2.1, .int .i64 u.2.2.2.1, .int .i64 u.2.2.2.2] 26)).drew.cell? ⟨w1.heap.size, 1, none⟩ = some (.int .i64 p.2.1) ∧ (V.alloc (.cells #[.int .i64 u.1.1, .int .i64 u.1.2.1, .int .i64 u.1.2.2, .int .i64 u.2.1.1, .int .i64 u.2.1.2.1, .int .i64 u.2.1.2.2, .int .i64 u.2.2.1, .int .i64 u.2.2.2.1, .int .i64 u.2.2.2.2] 26)).drew.cell? ⟨w1.heap.size, 2, none⟩ = some (.int .i64 p.2.2)) ∧ MapP (V.alloc (.cells #[.int .i64 u.1.1, .int .i64 u.1.2.1, .int .i64 u.1.2.2, .int .i64 u.2.1.1, .int .i64 u.2.1.2.1, .int .i64 u.2.1.2.2, .int .i64 u.2.2.1, .int .i64 u.2.2.2.1, .int .i64 u.2.2.2.2] 26)).drew w.heap.size k m :=
          ⟨(hal.cell (p := ⟨w.heap.size + 1, 0, none⟩) (show w.heap.size + 1 < V.heap.size by omega)).trans cV5, ⟨(hal.cell (p := ⟨w1.heap.size, 0, none⟩) hsV).trans cp0, (hal.cell (p := ⟨w1.heap.size, 1, none⟩) hsV).trans cp1, (hal.cell (p := ⟨w1.heap.size, 2, none⟩) hsV).trans cp2⟩, map_below HV.out.2.2.2.1 hal (Nat.le_refl _)⟩
        have HS6 := hide hS6
        clear hS6
        refine ⟨fun _ => HS6.out, ?_⟩
        have hg6 : Gps encT 9 26 (V.alloc (.cells #[.int .i64 u.1.1, .int .i64 u.1.2.1, .int .i64 u.1.2.2, .int .i64 u.2.1.1, .int .i64 u.2.1.2.1, .int .i64 u.2.1.2.2, .int .i64 u.2.2.1, .int .i64 u.2.2.2.1, .int .i64 u.2.2.2.2] 26)).drew (w.heap.size + 3) m (grp (keyF b) (ts.take k)) := HV.out.2.2.2.2.1.below hal (Nat.le_refl _)
        have hgl : (grp (keyF b) (ts.take k) p).length ≤ k := Nat.le_trans (grp_length _ _ _) (by simp; omega)
        have hom := hg6.1 p
        have HG6 := hide hg6
        clear hg6
        refine wpMix_n rfl rfl ?_
        rw [HM.out] at hom ⊢
        obtain ⟨ng, hng⟩ : ∃ ng, ng = (grp (keyF b) (ts.take k) p).length := ⟨_, rfl⟩
        rw [← hng] at hom hgl ⊢
        have HNG := hide hng
        clear hng
        simp only [List.getElem_toArray, List.getElem_cons_succ, List.getElem_cons_zero]
        refine wpList_append1 rfl _ _ _ rfl Try.underlying27 infoT rfl (by omega) encT_len encT_one rfl hom V.heap.size 1 u rfl (Blk.new V _ _).drew (by unfold maxLen; omega) (by omega) (by simp [World.drew]; omega) ?_; intro g cap w6 hown6 hg6 hB6 hat6 hgb6 hlt6
        have hgY : Gps encT 9 26 (V.alloc (.cells #[.int .i64 u.1.1, .int .i64 u.1.2.1, .int .i64 u.1.2.2, .int .i64 u.2.1.1, .int .i64 u.2.1.2.1, .int .i64 u.2.1.2.2, .int .i64 u.2.2.1, .int .i64 u.2.2.2.1, .int .i64 u.2.2.2.2] 26)).drew (w.heap.size + 3) m (grp (keyF b) (ts.take k)) := HG6.out
        have hpY : Blk (V.alloc (.cells #[.int .i64 u.1.1, .int .i64 u.1.2.1, .int .i64 u.1.2.2, .int .i64 u.2.1.1, .int .i64 u.2.1.2.1, .int .i64 u.2.1.2.2, .int .i64 u.2.2.1, .int .i64 u.2.2.2.1, .int .i64 u.2.2.2.2] 26)).drew w1.heap.size 23 #[.int .i64 p.1, .int .i64 p.2.1, .int .i64 p.2.2] := (HV.out.2.2.2.2.2.2.1.alloc _).drew
        have hoY : Own encT 9 26 (V.alloc (.cells #[.int .i64 u.1.1, .int .i64 u.1.2.1, .int .i64 u.1.2.2, .int .i64 u.2.1.1, .int .i64 u.2.1.2.1, .int .i64 u.2.1.2.2, .int .i64 u.2.2.1, .int .i64 u.2.2.2.1, .int .i64 u.2.2.2.2] 26)).drew (w.heap.size + 3) (.slice mA ng mc) ng (grp (keyF b) (ts.take k) p) := hom
        have hp6 := hpY.grown hg6 (own_not_blk hoY hpY (by decide))
        have hb65 : Boxed w6 (w.heap.size + 1) 78 (.map (some w.heap.size)) := boxed_below (boxed_below HV.out.1 hal (by omega)) hB6 (by omega)
        have hb66 := boxed_below (boxed_below HV.out.2.1 hal (by omega)) hB6 (by omega)
        have ho66 := (HV.out.2.2.1.below hal (Nat.le_refl _)).step hg6 (own_row hoY (by decide))
        have hm6 : MapP w6 w.heap.size k m := HS6.out.2.2.kept hg6 (fun e' => by have := (hoY.blk _ e'.symm).1; omega)
        have hgm : (m p).ownBlock = (Value.slice mA ng mc).ownBlock := by rw [HM.out, ← HNG.out]
        have hg66 := hgY.append p u (v' := .slice (some ⟨g, 0, none⟩) (ng + 1) cap) (n := ng + 1) (g := g) (by rw [hgm]; exact hg6) hown6 rfl (by rw [hgm]; exact hat6)
        have hB66 : Below w.heap.size w w6 := (HV.out.2.2.2.2.2.1.trans (hal.mono (by omega))).trans (hB6.mono (by omega))
        obtain ⟨w7, hrun, hm7, hg7⟩ := hm6.update (t := 78) (e := 27) Try.underlying78 (by unfold maxLen; omega) p HPF.out (.slice (some ⟨g, 0, none⟩) (ng + 1) cap)
        have q0 := hp6.cell 0
        have q1 := hp6.cell 1
        have q2 := hp6.cell 2
        simp only [List.getElem?_toArray, List.getElem?_cons_zero, List.getElem?_cons_succ] at q0 q1 q2
        have HQ := hide (And.intro hb65 (And.intro hb66 (And.intro ho66 (And.intro hm7 (And.intro hg7 (And.intro hg66 hB66))))))
        have c65 := hb65.cell
        go_wp2_with fail
        refine ⟨fun _ => ⟨c65, ⟨q0, q1, q2⟩, hm6⟩, ?_⟩
        refine wpMix_tail _ [_] (by kernel_rfl) rfl ?_
        simp only [List.getElem_toArray, List.getElem_cons_succ, List.getElem_cons_zero]
        clear hb65 hb66 ho66 hm7 hg7 hg66 hB66 c65 q0 q1 q2 hm6 hgm hp6 hoY hpY hgY hom hown6 hg6 hB6 hal cV5 cp0 cp1 cp2 cx0 cx1 cx2 cx3 cx4 cx5 cx6 cx7 cx8
        go_wp2
        go_roundw
        case rel =>
          have htk : ts.take (k + 1) = ts.take k ++ [u] := by rw [List.take_add_one, H.out.2.2.2.2.2.2.1]; rfl
          have hkp : keyF b u = p := HP.out.symm
          refine ⟨k + 1, by omega, by go_num, _, _, HQ.out.1.kept HQ.out.2.2.2.2.1 (fun e => by injection e with e; omega), HQ.out.2.1.kept HQ.out.2.2.2.2.1 (fun e => by injection e with e; omega), ?_, HQ.out.2.2.2.1, ?_, ?_⟩
          · rw [htk, keysOf_snoc, hkp]
            unfold addKey
            rw [if_neg hin, List.length_append, List.length_singleton]
            exact HQ.out.2.2.1.step HQ.out.2.2.2.2.1 (fun r e => .inl (by cases e; omega))
          · rw [htk]
            have hf : grp (keyF b) (ts.take k ++ [u]) = fun q => if q = p then grp (keyF b) (ts.take k) p ++ [u] else grp (keyF b) (ts.take k) q := by
              funext q
              rw [grp_snoc, hkp]
              by_cases hq : q = p
              · subst hq; simp
              · simp [hq]
            rw [hf]
            exact HQ.out.2.2.2.2.2.1.step HQ.out.2.2.2.2.1 (fun r e => .inl (by cases e; omega))
          · exact HQ.out.2.2.2.2.2.2.grown HQ.out.2.2.2.2.1 (by have := HQ.out.2.2.2.2.2.2.size; omega) (fun r e => by cases e; exact Nat.le_refl _)
        case measure => simp [intOf]; omega
    · have hke : k = ts.length := by omega
      subst hke
      rw [List.take_length] at ho6 hgp
      have c6 := hb6.cell
      have f6 := hb6.frozen
      obtain ⟨A6, n6, rfl⟩ := ho6.form
      have hsz : w.heap.size + 3 ≤ wr.heap.size := by have := hb6.lt; omega
      have hkl : (keysOf (keyF b) ts).length ≤ ts.length := keysOf_length _ _
      have hal : ∀ t ∈ ts, fitsT t := hft
      rcases ho6.place.2 with ⟨he, rfl⟩ | ⟨g6, rfl, hg6, hg6l⟩
      · rw [he] at ho6 c6 hb6
        have H := hide (And.intro hb5 (And.intro hb6 (And.intro ho6 (And.intro hmp (And.intro hgp (And.intro hB (And.intro he hs)))))))
        clear hb5 hb6 ho6 hmp hgp hB hs he
        go_wp2_with fail
        refine (sort_pt_none _ _ _ _).mono ?_
        rintro e w1 ⟨rfl, rfl⟩
        go_wp2
        go_ret
        refine ⟨rfl, ⟨m, none, n6, ts.length, H.out.1, ?_, ?_, .inl ⟨H.out.2.2.2.2.2.2.1, rfl⟩, H.out.2.2.2.1, H.out.2.2.2.2.1⟩, H.out.2.2.2.2.2.1⟩
        · rw [H.out.2.2.2.2.2.2.1]; exact H.out.2.1
        · rw [H.out.2.2.2.2.2.2.1]; exact Nat.zero_le _
      · have hH := ho6.holdsK encP_len
        have hcon := sort_pt 52 (.inl rfl) g6 0 n6 (keysOf (keyF b) ts) wr hH hg6l (by omega)
        have H := hide (And.intro hb5 (And.intro hb6 (And.intro ho6 (And.intro hmp (And.intro hgp (And.intro hB hs))))))
        have HC := hide hcon
        clear hb5 hb6 ho6 hmp hgp hB hs hH hcon
        go_wp2_with fail
        refine (unhide HC).mono ?_
        rintro e w1 ⟨rfl, hg1, hH1⟩
        go_wp2
        go_ret
        have hcap := H.out.2.2.1.place.1
        have h6o := H.out.2.2.1
        have hcs := h6o.cells g6 rfl
        have hbne : ∀ B : Nat, ∀ t v, t ≠ 23 → Boxed wr B t v → B ≠ g6 := fun B t v ht hb e => by
          obtain ⟨cs, hc⟩ := hcs
          subst e
          have := (show wr.heap[B]? = _ from hb).symm.trans hc
          simp at this
          exact ht this.2
        refine ⟨rfl, ⟨m, some ⟨g6, 0, none⟩, n6, ts.length, H.out.1.kept hg1 (fun e => ?_), H.out.2.1.kept hg1 (fun e => ?_), hcap, .inr ⟨g6, rfl, hg6, by have := hg1.size; omega, Sl.of_holdsK encP_len (by have := hg1.size; omega) hH1⟩, H.out.2.2.2.1.kept hg1 (fun e => ?_), H.out.2.2.2.2.1.step hg1 (fun r e => .inr (fun cs hc => ?_))⟩,
          H.out.2.2.2.2.2.1.grown hg1 (by omega) (fun r e => by cases e; omega)⟩
        · injection e with e; omega
        · injection e with e; omega
        · injection e with e; omega
        · injection e with e
          subst e
          obtain ⟨cs', hc'⟩ := hcs
          rw [hc'] at hc
          simp at hc
end Go.Proofs.Ytgndbpkgehjelaa
