/- Joined texts: Gat GatI Moved Equal Same SameI Same04. -/
import Derived.Carry
import Derived.Deep.QuietTactic
import Derived.BigQuiet
import Derived.Deep.RegionHeld3
import Derived.Test.YtgndbpkgehjelaaCB2
import Derived.Test.YtgndbpkgehjelaaCB3
import Derived.Test.YtgndbpkgehjelaaCB7
import Derived.Test.YtgndbpkgehjelaaCB10
import Derived.Test.YtgndbpkgehjelaaCB13
import Derived.Test.YtgndbpkgehjelaaCB19
import Derived.Test.YtgndbpkgehjelaaCB23
/- cluster.gathered at triangles. -/
namespace Go.Proofs.Ytgndbpkgehjelaa
open Go.RowKit Go.Sort Go.Shelf
theorem boxed_below {W W' : World} {B n : Nat} {t : TypeId} {v : Value} (h : Boxed W B t v) (hb : Below n W W') (hB : B < n) : Boxed W' B t v := (hb.block _ hB).trans h
theorem map_below {w w' : World} {b n B : Nat} {m : Pt → Value} (h : MapP w b n m) (hb : Below B w w') (hB : w.heap.size ≤ B) : MapP w' b n m :=
  h.kept (row := none) ⟨hb.os, hb.tape, hb.output, hb.size, fun i hi _ => hb.block i (by omega)⟩ (by simp)
theorem own_not_blk {α : Type} {enc : α → List Value} {k : Nat} {e t : TypeId} {w : World} {base n g : Nat} {v : Value} {xs : List α} {cs : Array Value} (h : Own enc k e w base v n xs) (hb : Blk w g t cs) (hte : t ≠ e) : some g ≠ v.ownBlock := by
  intro e'
  obtain ⟨cs', hc⟩ := h.cells g e'.symm
  unfold Blk at hb
  rw [hb] at hc
  simp at hc
  exact hte hc.2
theorem own_row {α : Type} {enc : α → List Value} {k : Nat} {e t : TypeId} {w : World} {base n : Nat} {v : Value} {xs : List α} (h : Own enc k e w base v n xs) (hte : e ≠ t) : ∀ r, v.ownBlock = some r → r < base ∨ ∀ cs, w.heap[r]? ≠ some (.cells cs t (0, 0)) := by
  intro r hr
  obtain ⟨cs, hc⟩ := h.cells r hr
  refine .inr fun cs' hc' => ?_
  rw [hc] at hc'
  simp at hc'
  exact hte hc'.2
def keyF (b : Int) (t : Tri) : Pt := blockP [t] b false
/-- What gathered has laid behind some elements. -/
def GatT (w : World) (b : Int) (xs : List Tri) (n : Nat) (wr : World) : Prop :=
  ∃ (m : Pt → Value) (v6 : Value), Boxed wr (w.heap.size + 1) 78 (.map (some w.heap.size)) ∧ Boxed wr (w.heap.size + 1 + 1) 72 v6 ∧
    Own encP 3 23 wr (w.heap.size + 3) v6 (keysOf (keyF b) xs).length (keysOf (keyF b) xs) ∧ MapP wr w.heap.size n m ∧ Gps encT 9 26 wr (w.heap.size + 3) m (grp (keyF b) xs) ∧ Below w.heap.size w wr
/-- What gathered leaves behind, b0 being the heap's size when it was called. -/
def GatR (b0 : Nat) (b : Int) (xs : List Tri) (w' : World) : Prop :=
  ∃ (m : Pt → Value) (A6 : Option Addr) (c6 n : Nat), Boxed w' (b0 + 1) 78 (.map (some b0)) ∧ Boxed w' (b0 + 1 + 1) 72 (.slice A6 (keysOf (keyF b) xs).length c6) ∧ (keysOf (keyF b) xs).length ≤ c6 ∧
    (keysOf (keyF b) xs = [] ∧ A6 = none ∨ ∃ g, A6 = some ⟨g, 0, none⟩ ∧ b0 + 3 ≤ g ∧ g < w'.heap.size ∧ Sl encP 3 w' w'.heap.size (some ⟨g, 0, none⟩) (sortP (keysOf (keyF b) xs))) ∧
    MapP w' b0 n m ∧ Gps encT 9 26 w' (b0 + 3) m (grp (keyF b) xs)
set_option maxRecDepth 100000 in
set_option maxHeartbeats 2000000 in
theorem gat_any (A : Option Addr) (c : Nat) (ts : List Tri) (bb : Nat) (b : Int) (w : World) (hs : Sl encT 9 w w.heap.size A ts) (hl : ts.length ≤ 4294967296) (hft : ∀ t ∈ ts, fitsT t)
    (hb : w.cell? ⟨bb, 0, none⟩ = some (.int .i64 b)) (hbb : bb < w.heap.size) :
    Calls Try.prog 39 #[.slice A ts.length c, .func (.func 40) #[] #[.pointer (some ⟨bb, 0, none⟩)]] w fun e w' =>
      e = .returned (.func (.func 54) #[] #[.pointer (some ⟨w.heap.size + 1 + 1, 0, none⟩), .pointer (some ⟨w.heap.size + 1, 0, none⟩)]) ∧ GatR w.heap.size b ts w' ∧ Below w.heap.size w w' := by
  have hmm := @run_makeMap Try.prog
  go_enter Try.func39, Try.ntmps39
  go_wp2
  clear hmm
  go_loopw [13] (fun i wr => ∃ k : Nat, k ≤ ts.length ∧ i = .int .i64 k ∧ GatT w b (ts.take k) k wr) (fun i _ => ts.length - (intOf i).toNat)
  case atStart =>
    refine ⟨0, Nat.zero_le _, rfl, _, _, ?_, ?_, Own.nil, ?_, Gps.nil, ?_⟩
    · have h0 := Boxed.new (w.alloc (.map #[] 0)) 78 (.map (some w.heap.size))
      rw [World.size_alloc] at h0
      exact h0.alloc _
    · have h0 := Boxed.new ((w.alloc (.map #[] 0)).alloc (.cells #[.map (some w.heap.size)] 78)) 72 (.slice none 0 0)
      rwa [World.size_alloc, World.size_alloc] at h0
    · have h0 := MapP.made w
      have h1 := h0.kept (World.grownBy_alloc _ (.cells #[.map (some w.heap.size)] 78) none) (by simp)
      exact h1.kept (World.grownBy_alloc _ (.cells #[.slice none 0 0] 72) none) (by simp)
    · exact (((Below.refl _ w).alloc (Nat.le_refl _) _).alloc (by simp) _).alloc (by simp; omega) _
  case round =>
    obtain ⟨k, hk, rfl, m, v6, hb5, hb6, ho6, hmp, hgp, hB⟩ := hrel
    by_cases hlt : k < ts.length
    · obtain ⟨u, hu⟩ : ∃ u, ts[k]? = some u := ⟨_, List.getElem?_eq_getElem hlt⟩
      obtain ⟨bA, oA, hA, hbA, g0, g1, g2, g3, g4, g5, g6, g7, g8⟩ := (hs.below hB).tri hu
      subst hA
      have hcb := (hB.cell (p := ⟨bb, 0, none⟩) hbb).trans hb
      have hfu : fitsT u := hft u (List.mem_of_getElem? hu)
      have hsz : w.heap.size + 3 ≤ wr.heap.size := by have := hb6.lt; omega
      have H := hide (And.intro hb5 (And.intro hb6 (And.intro ho6 (And.intro hmp (And.intro hgp (And.intro hB (And.intro hu (And.intro hs hb))))))))
      clear hb5 hb6 ho6 hmp hgp hB hu hs hb
      go_wp2_with fail
      obtain ⟨X0, hX0⟩ : ∃ X0, X0 = wr.alloc (.cells #[.int .i64 u.1.1, .int .i64 u.1.2.1, .int .i64 u.1.2.2, .int .i64 u.2.1.1, .int .i64 u.2.1.2.1, .int .i64 u.2.1.2.2, .int .i64 u.2.2.1, .int .i64 u.2.2.2.1, .int .i64 u.2.2.2.2] 26) := ⟨_, rfl⟩
      have hBX : Below wr.heap.size wr X0 := by rw [hX0]; exact (Below.refl _ wr).alloc (Nat.le_refl _) _
      have hbx0 : Blk X0 wr.heap.size 26 #[.int .i64 u.1.1, .int .i64 u.1.2.1, .int .i64 u.1.2.2, .int .i64 u.2.1.1, .int .i64 u.2.1.2.1, .int .i64 u.2.1.2.2, .int .i64 u.2.2.1, .int .i64 u.2.2.2.1, .int .i64 u.2.2.2.2] := by rw [hX0]; exact Blk.new _ _ _
      have hszX : X0.heap.size = wr.heap.size + 1 := by rw [hX0]; simp
      rw [← hX0]
      refine (fin1_any u hfu bb b X0 ((hBX.cell (p := ⟨bb, 0, none⟩) (by simp; omega)).trans hcb) (by omega)).mono ?_
      rintro e w1 ⟨rfl, hB1⟩
      clear hX0
      obtain ⟨p, hp⟩ : ∃ p, p = blockP [u] b false := ⟨_, rfl⟩
      rw [← hp]
      have hpf : fitsP p := by rw [hp]; exact fitsP_block (fun t ht => by simp at ht; subst ht; exact hfu) b false
      have HP := hide hp
      have HPF := hide hpf
      have hBw : Below wr.heap.size wr w1 := hBX.trans (hB1.mono (by omega))
      have hsz1 : wr.heap.size + 1 ≤ w1.heap.size := by have := hB1.size; omega
      -- the world behind p's variable
      obtain ⟨W2, hW2⟩ : ∃ W2, W2 = w1.alloc (.cells #[.int .i64 p.1, .int .i64 p.2.1, .int .i64 p.2.2] 23) := ⟨_, rfl⟩
      have hB2 : Below wr.heap.size wr W2 := by rw [hW2]; exact hBw.alloc (by omega) _
      have h25 : Boxed W2 (w.heap.size + 1) 78 (.map (some w.heap.size)) := boxed_below H.out.1 hB2 (by omega)
      have h26 : Boxed W2 (w.heap.size + 1 + 1) 72 v6 := boxed_below H.out.2.1 hB2 (by omega)
      have h2o := H.out.2.2.1.below hB2 (Nat.le_refl _)
      have h2m := map_below H.out.2.2.2.1 hB2 (Nat.le_refl _)
      have h2g := H.out.2.2.2.2.1.below hB2 (Nat.le_refl _)
      have h2B : Below w.heap.size w W2 := H.out.2.2.2.2.2.1.trans (hB2.mono (by omega))
      have h2p : Blk W2 w1.heap.size 23 #[.int .i64 p.1, .int .i64 p.2.1, .int .i64 p.2.2] := by rw [hW2]; exact Blk.new _ _ _
      have h2x : Blk W2 wr.heap.size 26 #[.int .i64 u.1.1, .int .i64 u.1.2.1, .int .i64 u.1.2.2, .int .i64 u.2.1.1, .int .i64 u.2.1.2.1, .int .i64 u.2.1.2.2, .int .i64 u.2.2.1, .int .i64 u.2.2.2.1, .int .i64 u.2.2.2.2] := by rw [hW2]; exact (hbx0.below hB1 (by omega)).alloc _
      have hsz2 : W2.heap.size = w1.heap.size + 1 := by rw [hW2]; simp
      have hqs := fun A n c => run_eql_slice_nil W2 27 26 A n c Try.underlying27
      have hlk := h2m.lookup (t := 78) (e := 27) Try.underlying78 rfl p hpf
      have c25 := h25.cell
      have c26 := h26.cell
      have f26 := h26.frozen
      obtain ⟨A6, n6, rfl⟩ := h2o.form
      have hkl : (keysOf (keyF b) (ts.take k)).length ≤ k := Nat.le_trans (keysOf_length _ _) (by simp; omega)
      by_cases hin : p ∈ keysOf (keyF b) (ts.take k)
      · -- a known point
        have hgne : grp (keyF b) (ts.take k) p ≠ [] := fun e => (grp_nil (keyF b)).1 e hin
        obtain ⟨gm, cm, hmv, _, _⟩ := (h2g.1 p).at hgne
        rw [hmv] at hlk
        clear hmv
        rw [hW2] at hlk c25 hqs
        have HL := hide (And.intro h25 (And.intro h26 (And.intro h2o (And.intro h2m (And.intro h2g (And.intro h2B (And.intro h2p h2x)))))))
        have HW2 := hide hW2
        clear h25 h26 h2o h2m h2g h2B h2p h2x hW2 hp hpf hB1 hBX hB2 hBw hbx0 c26 f26 hgne
        go_wp2_with fail
        clear hlk c25 hqs
        rw [← HW2.out]
        obtain ⟨V, hV⟩ : ∃ V, V = W2 := ⟨_, rfl⟩
        rw [← hV] at HL ⊢
        have hV5 := HL.out.1
        have hV6 := HL.out.2.1
        have hVo6 := HL.out.2.2.1
        have hVm := HL.out.2.2.2.1
        have hVg := HL.out.2.2.2.2.1
        have hVB := HL.out.2.2.2.2.2.1
        have hVp := HL.out.2.2.2.2.2.2.1
        have hVx := HL.out.2.2.2.2.2.2.2
        have hVsz : w.heap.size + 3 ≤ V.heap.size := by rw [hV]; omega
        clear HL HW2 hV hsz2
        have cV5 := hV5.cell
        have cp0 := hVp.cell 0
        have cp1 := hVp.cell 1
        have cp2 := hVp.cell 2
        have cx0 := hVx.cell 0
        have cx1 := hVx.cell 1
        have cx2 := hVx.cell 2
        have cx3 := hVx.cell 3
        have cx4 := hVx.cell 4
        have cx5 := hVx.cell 5
        have cx6 := hVx.cell 6
        have cx7 := hVx.cell 7
        have cx8 := hVx.cell 8
        simp only [List.getElem?_toArray, List.getElem?_cons_zero, List.getElem?_cons_succ] at cp0 cp1 cp2 cx0 cx1 cx2 cx3 cx4 cx5 cx6 cx7 cx8
        have hzl : ∀ W, (zeroValue 27).run Try.prog W = .ok (.slice none 0 0) W := fun _ => rfl
        have hVo := hVg.1 p
        obtain ⟨mA, mc, hme⟩ := hVo.form
        have HV := hide (And.intro hV5 (And.intro hV6 (And.intro hVo6 (And.intro hVm (And.intro hVg (And.intro hVB (And.intro hVp hVx)))))))
        have HM := hide hme
        have hszV : w.heap.size + 3 ≤ V.heap.size := hVsz
        have hsV : w1.heap.size < V.heap.size := hVp.lt
        have hsV2 : wr.heap.size < V.heap.size := hVx.lt
        have hS : V.drew.cell? ⟨w.heap.size + 1, 0, none⟩ = some (.map (some w.heap.size)) ∧ (V.drew.cell? ⟨w1.heap.size, 0, none⟩ = some (.int .i64 p.1) ∧ V.drew.cell? ⟨w1.heap.size, 1, none⟩ = some (.int .i64 p.2.1) ∧ V.drew.cell? ⟨w1.heap.size, 2, none⟩ = some (.int .i64 p.2.2)) ∧ MapP V.drew w.heap.size k m := ⟨cV5, ⟨cp0, cp1, cp2⟩, hVm⟩
        have HSd := hide hS
        clear hV5 hV6 hVo6 hVm hVg hVB hVp hVx hme hS
        go_wp2_with fail
        refine wp_region_mix (fun w' => w'.cell? ⟨w.heap.size + 1, 0, none⟩ = some (.map (some w.heap.size)) ∧ (w'.cell? ⟨w1.heap.size, 0, none⟩ = some (.int .i64 p.1) ∧ w'.cell? ⟨w1.heap.size, 1, none⟩ = some (.int .i64 p.2.1) ∧ w'.cell? ⟨w1.heap.size, 2, none⟩ = some (.int .i64 p.2.2)) ∧ MapP w' w.heap.size k m) [0, 1, 2, 3, 4] [0, 1, 2, 3, 4, 5, 6, 7, 8] mixed_ok (by kernel_rfl) ?_
        refine wpMix_q (v := .map (some w.heap.size)) rfl rfl (fun _ _ _ h => h) HSd.out ⟨rfl, fun W' h' => by simp [go_sem, h'.1]⟩ ?_
        refine wpMix_q (v := vP p) rfl rfl (fun _ _ _ h => h) HSd.out ⟨rfl, fun W' h' => by simp [go_sem, h'.2.1.1, h'.2.1.2.1, h'.2.1.2.2]⟩ ?_
        refine wpMix_q (v := .map (some w.heap.size)) rfl rfl (fun _ _ _ h => h) HSd.out ⟨rfl, fun W' h' => by simp [go_sem, h'.1]⟩ ?_
        refine wpMix_q (v := vP p) rfl rfl (fun _ _ _ h => h) HSd.out ⟨rfl, fun W' h' => by simp [go_sem, h'.2.1.1, h'.2.1.2.1, h'.2.1.2.2]⟩ ?_
        refine wpMix_q (v := m p) rfl rfl (fun _ _ _ h => h) HSd.out ⟨rfl, fun W' h' => by simp [execOp, go_sem, h'.2.2.lookup Try.underlying78 (hzl W') p HPF.out]⟩ ?_
        refine wpMix_n rfl rfl ?_
        go_wp2_with fail
        refine ⟨fun _ => HSd.out, ?_⟩
        refine wpMix_n rfl rfl ?_
        go_wp2_with fail
        have hal : Below V.heap.size V (V.alloc (.cells #[.int .i64 u.1.1, .int .i64 u.1.2.1, .int .i64 u.1.2.2, .int .i64 u.2.1.1, .int .i64 u.2.1.2.1, .int .i64 u.2.1.2.2, .int .i64 u.2.2.1, .int .i64 u.2.2.2.1, .int .i64 u.2.2.2.2] 26)).drew := ((Below.refl _ V).alloc (Nat.le_refl _) _).drew
        have hS6 : (V.alloc (.cells #[.int .i64 u.1.1, .int .i64 u.1.2.1, .int .i64 u.1.2.2, .int .i64 u.2.1.1, .int .i64 u.2.1.2.1, .int .i64 u.2.1.2.2, .int .i64 u.2.2.1, .int .i64 u.2.2.2.1, .int .i64 u.2.2.2.2] 26)).drew.cell? ⟨w.heap.size + 1, 0, none⟩ = some (.map (some w.heap.size)) ∧ ((V.alloc (.cells #[.int .i64 u.1.1, .int .i64 u.1.2.1, .int .i64 u.1.2.2, .int .i64 u.2.1.1, .int .i64 u.2.1.2.1, .int .i64 u.2.1.2.2, .int .i64 u.2.2.1, .int .i64 u.2.2.2.1, .int .i64 u.2.2.2.2] 26)).drew.cell? ⟨w1.heap.size, 0, none⟩ = some (.int .i64 p.1) ∧ (V.alloc (.cells #[.int .i64 u.1.1, .int .i64 u.1.2.1, .int .i64 u.1.2.2, .int .i64 u.2.1.1, .int .i64 u.2.1.2.1, .int .i64 u.2.1.2.2, .int .i64 u.2.2.1, .int .i64 u.2.2.2.1, .int .i64 u.2.2.2.2] 26)).drew.cell? ⟨w1.heap.size, 1, none⟩ = some (.int .i64 p.2.1) ∧ (V.alloc (.cells #[.int .i64 u.1.1, .int .i64 u.1.2.1, .int .i64 u.1.2.2, .int .i64 u.2.1.1, .int .i64 u.2.1.2.1, .int .i64 u.2.1.2.2, .int .i64 u.2.2.1, .int .i64 u.2.2.2.1, .int .i64 u.2.2.2.2] 26)).drew.cell? ⟨w1.heap.size, 2, none⟩ = some (.int .i64 p.2.2)) ∧ MapP (V.alloc (.cells #[.int .i64 u.1.1, .int .i64 u.1.2.1, .int .i64 u.1.2.2, .int .i64 u.2.1.1, .int .i64 u.2.1.2.1, .int .i64 u.2.1.2.2, .int .i64 u.2.2.1, .int .i64 u.2.2.2.1, .int .i64 u.2.2.2.2] 26)).drew w.heap.size k m :=
          ⟨(hal.cell (p := ⟨w.heap.size + 1, 0, none⟩) (show w.heap.size + 1 < V.heap.size by omega)).trans cV5, ⟨(hal.cell (p := ⟨w1.heap.size, 0, none⟩) hsV).trans cp0, (hal.cell (p := ⟨w1.heap.size, 1, none⟩) hsV).trans cp1, (hal.cell (p := ⟨w1.heap.size, 2, none⟩) hsV).trans cp2⟩, map_below HV.out.2.2.2.1 hal (Nat.le_refl _)⟩
        have HS6 := hide hS6
        clear hS6
        refine ⟨fun _ => HS6.out, ?_⟩
        have hg6 : Gps encT 9 26 (V.alloc (.cells #[.int .i64 u.1.1, .int .i64 u.1.2.1, .int .i64 u.1.2.2, .int .i64 u.2.1.1, .int .i64 u.2.1.2.1, .int .i64 u.2.1.2.2, .int .i64 u.2.2.1, .int .i64 u.2.2.2.1, .int .i64 u.2.2.2.2] 26)).drew (w.heap.size + 3) m (grp (keyF b) (ts.take k)) := HV.out.2.2.2.2.1.below hal (Nat.le_refl _)
        have hgl : (grp (keyF b) (ts.take k) p).length ≤ k := Nat.le_trans (grp_length _ _ _) (by simp; omega)
        have hom := hg6.1 p
        have HG6 := hide hg6
        clear hg6
        refine wpMix_n rfl rfl ?_
        rw [HM.out] at hom ⊢
        obtain ⟨ng, hng⟩ : ∃ ng, ng = (grp (keyF b) (ts.take k) p).length := ⟨_, rfl⟩
        rw [← hng] at hom hgl ⊢
        have HNG := hide hng
        clear hng
        simp only [List.getElem_toArray, List.getElem_cons_succ, List.getElem_cons_zero]
        refine wpList_append1 rfl _ _ _ rfl Try.underlying27 infoT rfl (by omega) encT_len encT_one rfl hom V.heap.size 1 u rfl (Blk.new V _ _).drew (by unfold maxLen; omega) (by omega) (by simp [World.drew]; omega) ?_; intro g cap w6 hown6 hg6 hB6 hat6 hgb6 hlt6
        have hgY : Gps encT 9 26 (V.alloc (.cells #[.int .i64 u.1.1, .int .i64 u.1.2.1, .int .i64 u.1.2.2, .int .i64 u.2.1.1, .int .i64 u.2.1.2.1, .int .i64 u.2.1.2.2, .int .i64 u.2.2.1, .int .i64 u.2.2.2.1, .int .i64 u.2.2.2.2] 26)).drew (w.heap.size + 3) m (grp (keyF b) (ts.take k)) := HG6.out
        have hpY : Blk (V.alloc (.cells #[.int .i64 u.1.1, .int .i64 u.1.2.1, .int .i64 u.1.2.2, .int .i64 u.2.1.1, .int .i64 u.2.1.2.1, .int .i64 u.2.1.2.2, .int .i64 u.2.2.1, .int .i64 u.2.2.2.1, .int .i64 u.2.2.2.2] 26)).drew w1.heap.size 23 #[.int .i64 p.1, .int .i64 p.2.1, .int .i64 p.2.2] := (HV.out.2.2.2.2.2.2.1.alloc _).drew
        have hoY : Own encT 9 26 (V.alloc (.cells #[.int .i64 u.1.1, .int .i64 u.1.2.1, .int .i64 u.1.2.2, .int .i64 u.2.1.1, .int .i64 u.2.1.2.1, .int .i64 u.2.1.2.2, .int .i64 u.2.2.1, .int .i64 u.2.2.2.1, .int .i64 u.2.2.2.2] 26)).drew (w.heap.size + 3) (.slice mA ng mc) ng (grp (keyF b) (ts.take k) p) := hom
        have hp6 := hpY.grown hg6 (own_not_blk hoY hpY (by decide))
        have hb65 : Boxed w6 (w.heap.size + 1) 78 (.map (some w.heap.size)) := boxed_below (boxed_below HV.out.1 hal (by omega)) hB6 (by omega)
        have hb66 := boxed_below (boxed_below HV.out.2.1 hal (by omega)) hB6 (by omega)
        have ho66 := (HV.out.2.2.1.below hal (Nat.le_refl _)).step hg6 (own_row hoY (by decide))
        have hm6 : MapP w6 w.heap.size k m := HS6.out.2.2.kept hg6 (fun e' => by have := (hoY.blk _ e'.symm).1; omega)
        have hgm : (m p).ownBlock = (Value.slice mA ng mc).ownBlock := by rw [HM.out, ← HNG.out]
        have hg66 := hgY.append p u (v' := .slice (some ⟨g, 0, none⟩) (ng + 1) cap) (n := ng + 1) (g := g) (by rw [hgm]; exact hg6) hown6 rfl (by rw [hgm]; exact hat6)
        have hB66 : Below w.heap.size w w6 := (HV.out.2.2.2.2.2.1.trans (hal.mono (by omega))).trans (hB6.mono (by omega))
        obtain ⟨w7, hrun, hm7, hg7⟩ := hm6.update (t := 78) (e := 27) Try.underlying78 (by unfold maxLen; omega) p HPF.out (.slice (some ⟨g, 0, none⟩) (ng + 1) cap)
        have q0 := hp6.cell 0
        have q1 := hp6.cell 1
        have q2 := hp6.cell 2
        simp only [List.getElem?_toArray, List.getElem?_cons_zero, List.getElem?_cons_succ] at q0 q1 q2
        have HQ := hide (And.intro hb65 (And.intro hb66 (And.intro ho66 (And.intro hm7 (And.intro hg7 (And.intro hg66 hB66))))))
        have c65 := hb65.cell
        go_wp2_with fail
        refine ⟨fun _ => ⟨c65, ⟨q0, q1, q2⟩, hm6⟩, ?_⟩
        refine wpMix_tail _ [_] (by kernel_rfl) rfl ?_
        simp only [List.getElem_toArray, List.getElem_cons_succ, List.getElem_cons_zero]
        clear hb65 hb66 ho66 hm7 hg7 hg66 hB66 c65 q0 q1 q2 hm6 hgm hp6 hoY hpY hgY hom hown6 hg6 hB6 hal cV5 cp0 cp1 cp2 cx0 cx1 cx2 cx3 cx4 cx5 cx6 cx7 cx8
        go_wp2
        go_roundw
        case rel =>
          have htk : ts.take (k + 1) = ts.take k ++ [u] := by rw [List.take_add_one, H.out.2.2.2.2.2.2.1]; rfl
          have hkp : keyF b u = p := HP.out.symm
          refine ⟨k + 1, by omega, by go_num, _, _, HQ.out.1.kept HQ.out.2.2.2.2.1 (fun e => by injection e with e; omega), HQ.out.2.1.kept HQ.out.2.2.2.2.1 (fun e => by injection e with e; omega), ?_, HQ.out.2.2.2.1, ?_, ?_⟩
          · rw [htk, keysOf_snoc, hkp]
            unfold addKey
            rw [if_pos hin]
            exact HQ.out.2.2.1.step HQ.out.2.2.2.2.1 (fun r e => .inl (by cases e; omega))
          · rw [htk]
            have hf : grp (keyF b) (ts.take k ++ [u]) = fun q => if q = p then grp (keyF b) (ts.take k) p ++ [u] else grp (keyF b) (ts.take k) q := by
              funext q
              rw [grp_snoc, hkp]
              by_cases hq : q = p
              · subst hq; simp
              · simp [hq]
            rw [hf]
            exact HQ.out.2.2.2.2.2.1.step HQ.out.2.2.2.2.1 (fun r e => .inl (by cases e; omega))
          · exact HQ.out.2.2.2.2.2.2.grown HQ.out.2.2.2.2.1 (by have := HQ.out.2.2.2.2.2.2.size; omega) (fun r e => by cases e; exact Nat.le_refl _)
        case measure => simp [intOf]; omega
      · -- a new point
        have hmv : m p = .slice none 0 0 := h2g.2.2 p ((grp_nil (keyF b)).2 hin)
        rw [hmv] at hlk
        clear hmv
        obtain ⟨Y2, hY2⟩ : ∃ Y2, Y2 = W2.alloc (.cells #[.int .i64 p.1, .int .i64 p.2.1, .int .i64 p.2.2] 23) := ⟨_, rfl⟩
        have hgY : W2.grownBy Y2 none := by rw [hY2]; exact World.grownBy_alloc _ _ _
        have hBY : Below W2.heap.size W2 Y2 := by rw [hY2]; exact (Below.refl _ W2).alloc (Nat.le_refl _) _
        have hyo := h2o.below hBY (Nat.le_refl _)
        have hyp : Blk Y2 (w1.heap.size + 1) 23 #[.int .i64 p.1, .int .i64 p.2.1, .int .i64 p.2.2] := by rw [hY2]; exact Blk.new' _ _ _ _ (by omega)
        have hszY : Y2.heap.size = w1.heap.size + 2 := by rw [hY2]; simp; omega
        have hbx := boxed_below h26 hBY (by omega)
        have hY2' := hY2
        rw [hW2] at hY2' hlk c25 hqs c26 f26
        have HL := hide (And.intro h25 (And.intro h26 (And.intro h2o (And.intro h2m (And.intro h2g (And.intro h2B (And.intro h2p (And.intro h2x hBY))))))))
        have HW2 := hide hW2
        have hyo' := hyo
        have hyp' := hyp
        have hbx' := hbx
        rw [hY2'] at hyo' hyp' hbx'
        have HY := hide (And.intro hyo (And.intro hyp hbx))
        have HY2 := hide hY2'
        clear h25 h26 h2o h2m h2g h2B h2p h2x hW2 hp hpf hB1 hBX hB2 hBw hbx0 hY2 hY2' hyo hyp hbx hBY hgY
        go_wp2_with (at_builtin; refine wpList_append1 rfl _ _ _ rfl Try.underlying72 infoP rfl (by omega) encP_len encP_one rfl hyo' (w1.heap.size + 1) 1 p rfl hyp' (by unfold maxLen; omega) (by omega) (by simp; omega) ?_; intro g3 cap3 w3 hown3 hg3 hB3 hat3 hgb3 hlt3; have hbx3 := hbx'.kept hg3 (hbx'.not_row (by decide) hyo'.2); have c36 := hbx3.cell; have f36 := hbx3.frozen)
        have hg3' : Y2.grownBy w3 (Value.slice A6 (keysOf (keyF b) (ts.take k)).length n6).ownBlock := by rw [HY2.out]; exact hg3
        obtain ⟨V, hV⟩ : ∃ V, V = w3.setCell ⟨w.heap.size + 1 + 1, 0, none⟩ (.slice (some ⟨g3, 0, none⟩) ((keysOf (keyF b) (ts.take k)).length + 1) cap3) := ⟨_, rfl⟩
        rw [← hV]
        have hgV : w3.grownBy V (some (w.heap.size + 1 + 1)) := by rw [hV]; exact grownBy_setCell' _ _ _
        have hYB : Below W2.heap.size W2 Y2 := HL.out.2.2.2.2.2.2.2.2
        have hrow := own_row (t := 26) HY.out.1 (by decide)
        have hV6 : Boxed V (w.heap.size + 1 + 1) 72 (.slice (some ⟨g3, 0, none⟩) ((keysOf (keyF b) (ts.take k)).length + 1) cap3) := by rw [hV]; exact hbx3.set _
        have hy5 : Boxed Y2 (w.heap.size + 1) 78 (.map (some w.heap.size)) := boxed_below HL.out.1 hYB (by omega)
        have hV5 : Boxed V (w.heap.size + 1) 78 (.map (some w.heap.size)) := (hy5.kept hg3' (hy5.not_row (by decide) HY.out.1.2)).kept hgV (fun e => by injection e with e; omega)
        have hVo6 := hown3.step hgV (fun r e => .inl (by cases e; omega))
        have hVm : MapP V w.heap.size k m := ((map_below HL.out.2.2.2.1 hYB (Nat.le_refl _)).kept hg3' (fun e => by have := (HY.out.1.blk _ e.symm).1; omega)).kept hgV (fun e => by injection e with e; omega)
        have hVg : Gps encT 9 26 V (w.heap.size + 3) m (grp (keyF b) (ts.take k)) := ((HL.out.2.2.2.2.1.below hYB (Nat.le_refl _)).step hg3' hrow).step hgV (fun r e => .inl (by cases e; omega))
        have hVB : Below w.heap.size w V := ((HL.out.2.2.2.2.2.1.trans (hYB.mono (by omega))).grown hg3' (by omega) (fun r e => by have := (HY.out.1.blk _ e).1; omega)).grown hgV (by have := hg3'.size; omega) (fun r e => by cases e; omega)
        have hold : ∀ r, (Value.slice A6 (keysOf (keyF b) (ts.take k)).length n6).ownBlock = some r → r < wr.heap.size := fun r e => (H.out.2.2.1.blk _ e).2
        have hVp : Blk V w1.heap.size 23 #[.int .i64 p.1, .int .i64 p.2.1, .int .i64 p.2.2] := ((HL.out.2.2.2.2.2.2.1.below hYB (by omega)).grown hg3' (fun e => by have := hold _ e.symm; omega)).grown hgV (fun e => by injection e with e; omega)
        have hVx : Blk V wr.heap.size 26 #[.int .i64 u.1.1, .int .i64 u.1.2.1, .int .i64 u.1.2.2, .int .i64 u.2.1.1, .int .i64 u.2.1.2.1, .int .i64 u.2.1.2.2, .int .i64 u.2.2.1, .int .i64 u.2.2.2.1, .int .i64 u.2.2.2.2] := ((HL.out.2.2.2.2.2.2.2.1.below hYB (by omega)).grown hg3' (fun e => by have := hold _ e.symm; omega)).grown hgV (fun e => by injection e with e; omega)
        have hVsz : w.heap.size + 3 ≤ V.heap.size := by have := hg3'.size; have := hgV.size; omega
        clear HL HW2 hV hsz2 hgV hYB hrow hy5 hg3' hg3 hB3 hown3 hbx3 c36 f36 hbx' hyo' hyp' HY HY2 hold hlk c25 hqs c26 f26
        have cV5 := hV5.cell
        have cp0 := hVp.cell 0
        have cp1 := hVp.cell 1
        have cp2 := hVp.cell 2
        have cx0 := hVx.cell 0
        have cx1 := hVx.cell 1
        have cx2 := hVx.cell 2
        have cx3 := hVx.cell 3
        have cx4 := hVx.cell 4
        have cx5 := hVx.cell 5
        have cx6 := hVx.cell 6
        have cx7 := hVx.cell 7
        have cx8 := hVx.cell 8
        simp only [List.getElem?_toArray, List.getElem?_cons_zero, List.getElem?_cons_succ] at cp0 cp1 cp2 cx0 cx1 cx2 cx3 cx4 cx5 cx6 cx7 cx8
        have hzl : ∀ W, (zeroValue 27).run Try.prog W = .ok (.slice none 0 0) W := fun _ => rfl
        have hVo := hVg.1 p
        obtain ⟨mA, mc, hme⟩ := hVo.form
        have HV := hide (And.intro hV5 (And.intro hV6 (And.intro hVo6 (And.intro hVm (And.intro hVg (And.intro hVB (And.intro hVp hVx)))))))
        have HM := hide hme
        have hszV : w.heap.size + 3 ≤ V.heap.size := hVsz
        have hsV : w1.heap.size < V.heap.size := hVp.lt
        have hsV2 : wr.heap.size < V.heap.size := hVx.lt
        have hS : V.drew.cell? ⟨w.heap.size + 1, 0, none⟩ = some (.map (some w.heap.size)) ∧ (V.drew.cell? ⟨w1.heap.size, 0, none⟩ = some (.int .i64 p.1) ∧ V.drew.cell? ⟨w1.heap.size, 1, none⟩ = some (.int .i64 p.2.1) ∧ V.drew.cell? ⟨w1.heap.size, 2, none⟩ = some (.int .i64 p.2.2)) ∧ MapP V.drew w.heap.size k m := ⟨cV5, ⟨cp0, cp1, cp2⟩, hVm⟩
        have HSd := hide hS
        clear hV5 hV6 hVo6 hVm hVg hVB hVp hVx hme hS
        go_wp2_with fail
        refine wp_region_mix (fun w' => w'.cell? ⟨w.heap.size + 1, 0, none⟩ = some (.map (some w.heap.size)) ∧ (w'.cell? ⟨w1.heap.size, 0, none⟩ = some (.int .i64 p.1) ∧ w'.cell? ⟨w1.heap.size, 1, none⟩ = some (.int .i64 p.2.1) ∧ w'.cell? ⟨w1.heap.size, 2, none⟩ = some (.int .i64 p.2.2)) ∧ MapP w' w.heap.size k m) [0, 1, 2, 3, 4] [0, 1, 2, 3, 4, 5, 6, 7, 8] mixed_ok (by kernel_rfl) ?_
        refine wpMix_q (v := .map (some w.heap.size)) rfl rfl (fun _ _ _ h => h) HSd.out ⟨rfl, fun W' h' => by simp [go_sem, h'.1]⟩ ?_
        refine wpMix_q (v := vP p) rfl rfl (fun _ _ _ h => h) HSd.out ⟨rfl, fun W' h' => by simp [go_sem, h'.2.1.1, h'.2.1.2.1, h'.2.1.2.2]⟩ ?_
        refine wpMix_q (v := .map (some w.heap.size)) rfl rfl (fun _ _ _ h => h) HSd.out ⟨rfl, fun W' h' => by simp [go_sem, h'.1]⟩ ?_
        refine wpMix_q (v := vP p) rfl rfl (fun _ _ _ h => h) HSd.out ⟨rfl, fun W' h' => by simp [go_sem, h'.2.1.1, h'.2.1.2.1, h'.2.1.2.2]⟩ ?_
        refine wpMix_q (v := m p) rfl rfl (fun _ _ _ h => h) HSd.out ⟨rfl, fun W' h' => by simp [execOp, go_sem, h'.2.2.lookup Try.underlying78 (hzl W') p HPF.out]⟩ ?_
        refine wpMix_n rfl rfl ?_
        go_wp2_with fail
        refine ⟨fun _ => HSd.out, ?_⟩
        refine wpMix_n rfl rfl ?_
        go_wp2_with fail
        have hal : Below V.heap.size V (V.alloc (.cells #[.int .i64 u.1.1, .int .i64 u.1.2.1, .int .i64 u.1.2.2, .int .i64 u.2.1.1, .int .i64 u.2.1.2.1, .int .i64 u.2.1.2.2, .int .i64 u.2.2.1, .int .i64 u.2.2.2.1, .int .i64 u.2.2.2.2] 26)).drew := ((Below.refl _ V).alloc (Nat.le_refl _) _).drew
        have hS6 : (V.alloc (.cells #[.int .i64 u.1.1, .int .i64 u.1.2.1, .int .i64 u.1.2.2, .int .i64 u.2.1.1, .int .i64 u.2.1.2.1, .int .i64 u.2.1.2.2, .int .i64 u.2.2.1, .int .i64 u.2.2.2.1, .int .i64 u.2.2.2.2] 26)).drew.cell? ⟨w.heap.size + 1, 0, none⟩ = some (.map (some w.heap.size)) ∧ ((V.alloc (.cells #[.int .i64 u.1.1, .int .i64 u.1.2.1, .int .i64 u.1.2.2, .int .i64 u.2.1.1, .int .i64 u.2.1.2.1, .int .i64 u.2.1.2.2, .int .i64 u.2.2.1, .int .i64 u.2.2.2.1, .int .i64 u.2.2.2.2] 26)).drew.cell? ⟨w1.heap.size, 0, none⟩ = some (.int .i64 p.1) ∧ (V.alloc (.cells #[.int .i64 u.1.1, .int .i64 u.1.2.1, .int .i64 u.1.2.2, .int .i64 u.2.1.1, .int .i64 u.2.1.2.1, .int .i64 u.2.1.2.2, .int .i64 u.2.2.1, .int .i64 u.2.2.2.1, .int .i64 u.2.2.2.2] 26)).drew.cell? ⟨w1.heap.size, 1, none⟩ = some (.int .i64 p.2.1) ∧ (V.alloc (.cells #[.int .i64 u.1.1, .int .i64 u.1.2.1, .int .i64 u.1.2.2, .int .i64 u.2.1.1, .int .i64 u.2.1.2.1, .int .i64 u.2.1.2.2, .int .i64 u.2.2.1, .int .i64 u.2.2.2.1, .int .i64 u.2.2.2.2] 26)).drew.cell? ⟨w1.heap.size, 2, none⟩ = some (.int .i64 p.2.2)) ∧ MapP (V.alloc (.cells #[.int .i64 u.1.1, .int .i64 u.1.2.1, .int .i64 u.1.2.2, .int .i64 u.2.1.1, .int .i64 u.2.1.2.1, .int .i64 u.2.1.2.2, .int .i64 u.2.2.1, .int .i64 u.2.2.2.1, .int .i64 u.2.2.2.2] 26)).drew w.heap.size k m :=
          ⟨(hal.cell (p := ⟨w.heap.size + 1, 0, none⟩) (show w.heap.size + 1 < V.heap.size by omega)).trans cV5, ⟨(hal.cell (p := ⟨w1.heap.size, 0, none⟩) hsV).trans cp0, (hal.cell (p := ⟨w1.heap.size, 1, none⟩) hsV).trans cp1, (hal.cell (p := ⟨w1.heap.size, 2, none⟩) hsV).trans cp2⟩, map_below HV.out.2.2.2.1 hal (Nat.le_refl _)⟩
        have HS6 := hide hS6
        clear hS6
        refine ⟨fun _ => HS6.out, ?_⟩
        have hg6 : Gps encT 9 26 (V.alloc (.cells #[.int .i64 u.1.1, .int .i64 u.1.2.1, .int .i64 u.1.2.2, .int .i64 u.2.1.1, .int .i64 u.2.1.2.1, .int .i64 u.2.1.2.2, .int .i64 u.2.2.1, .int .i64 u.2.2.2.1, .int .i64 u.2.2.2.2] 26)).drew (w.heap.size + 3) m (grp (keyF b) (ts.take k)) := HV.out.2.2.2.2.1.below hal (Nat.le_refl _)
        have hgl : (grp (keyF b) (ts.take k) p).length ≤ k := Nat.le_trans (grp_length _ _ _) (by simp; omega)
        have hom := hg6.1 p
        have HG6 := hide hg6
        clear hg6
        refine wpMix_n rfl rfl ?_
        rw [HM.out] at hom ⊢
        obtain ⟨ng, hng⟩ : ∃ ng, ng = (grp (keyF b) (ts.take k) p).length := ⟨_, rfl⟩
        rw [← hng] at hom hgl ⊢
        have HNG := hide hng
        clear hng
        simp only [List.getElem_toArray, List.getElem_cons_succ, List.getElem_cons_zero]
        refine wpList_append1 rfl _ _ _ rfl Try.underlying27 infoT rfl (by omega) encT_len encT_one rfl hom V.heap.size 1 u rfl (Blk.new V _ _).drew (by unfold maxLen; omega) (by omega) (by simp [World.drew]; omega) ?_; intro g cap w6 hown6 hg6 hB6 hat6 hgb6 hlt6
        have hgY : Gps encT 9 26 (V.alloc (.cells #[.int .i64 u.1.1, .int .i64 u.1.2.1, .int .i64 u.1.2.2, .int .i64 u.2.1.1, .int .i64 u.2.1.2.1, .int .i64 u.2.1.2.2, .int .i64 u.2.2.1, .int .i64 u.2.2.2.1, .int .i64 u.2.2.2.2] 26)).drew (w.heap.size + 3) m (grp (keyF b) (ts.take k)) := HG6.out
        have hpY : Blk (V.alloc (.cells #[.int .i64 u.1.1, .int .i64 u.1.2.1, .int .i64 u.1.2.2, .int .i64 u.2.1.1, .int .i64 u.2.1.2.1, .int .i64 u.2.1.2.2, .int .i64 u.2.2.1, .int .i64 u.2.2.2.1, .int .i64 u.2.2.2.2] 26)).drew w1.heap.size 23 #[.int .i64 p.1, .int .i64 p.2.1, .int .i64 p.2.2] := (HV.out.2.2.2.2.2.2.1.alloc _).drew
        have hoY : Own encT 9 26 (V.alloc (.cells #[.int .i64 u.1.1, .int .i64 u.1.2.1, .int .i64 u.1.2.2, .int .i64 u.2.1.1, .int .i64 u.2.1.2.1, .int .i64 u.2.1.2.2, .int .i64 u.2.2.1, .int .i64 u.2.2.2.1, .int .i64 u.2.2.2.2] 26)).drew (w.heap.size + 3) (.slice mA ng mc) ng (grp (keyF b) (ts.take k) p) := hom
        have hp6 := hpY.grown hg6 (own_not_blk hoY hpY (by decide))
        have hb65 : Boxed w6 (w.heap.size + 1) 78 (.map (some w.heap.size)) := boxed_below (boxed_below HV.out.1 hal (by omega)) hB6 (by omega)
        have hb66 := boxed_below (boxed_below HV.out.2.1 hal (by omega)) hB6 (by omega)
        have ho66 := (HV.out.2.2.1.below hal (Nat.le_refl _)).step hg6 (own_row hoY (by decide))
        have hm6 : MapP w6 w.heap.size k m := HS6.out.2.2.kept hg6 (fun e' => by have := (hoY.blk _ e'.symm).1; omega)
        have hgm : (m p).ownBlock = (Value.slice mA ng mc).ownBlock := by rw [HM.out, ← HNG.out]
        have hg66 := hgY.append p u (v' := .slice (some ⟨g, 0, none⟩) (ng + 1) cap) (n := ng + 1) (g := g) (by rw [hgm]; exact hg6) hown6 rfl (by rw [hgm]; exact hat6)
        have hB66 : Below w.heap.size w w6 := (HV.out.2.2.2.2.2.1.trans (hal.mono (by omega))).trans (hB6.mono (by omega))
        obtain ⟨w7, hrun, hm7, hg7⟩ := hm6.update (t := 78) (e := 27) Try.underlying78 (by unfold maxLen; omega) p HPF.out (.slice (some ⟨g, 0, none⟩) (ng + 1) cap)
        have q0 := hp6.cell 0
        have q1 := hp6.cell 1
        have q2 := hp6.cell 2
        simp only [List.getElem?_toArray, List.getElem?_cons_zero, List.getElem?_cons_succ] at q0 q1 q2
        have HQ := hide (And.intro hb65 (And.intro hb66 (And.intro ho66 (And.intro hm7 (And.intro hg7 (And.intro hg66 hB66))))))
        have c65 := hb65.cell
        go_wp2_with fail
        refine ⟨fun _ => ⟨c65, ⟨q0, q1, q2⟩, hm6⟩, ?_⟩
        refine wpMix_tail _ [_] (by kernel_rfl) rfl ?_
        simp only [List.getElem_toArray, List.getElem_cons_succ, List.getElem_cons_zero]
        clear hb65 hb66 ho66 hm7 hg7 hg66 hB66 c65 q0 q1 q2 hm6 hgm hp6 hoY hpY hgY hom hown6 hg6 hB6 hal cV5 cp0 cp1 cp2 cx0 cx1 cx2 cx3 cx4 cx5 cx6 cx7 cx8
        go_wp2
        go_roundw
        case rel =>
          have htk : ts.take (k + 1) = ts.take k ++ [u] := by rw [List.take_add_one, H.out.2.2.2.2.2.2.1]; rfl
          have hkp : keyF b u = p := HP.out.symm
          refine ⟨k + 1, by omega, by go_num, _, _, HQ.out.1.kept HQ.out.2.2.2.2.1 (fun e => by injection e with e; omega), HQ.out.2.1.kept HQ.out.2.2.2.2.1 (fun e => by injection e with e; omega), ?_, HQ.out.2.2.2.1, ?_, ?_⟩
          · rw [htk, keysOf_snoc, hkp]
            unfold addKey
            rw [if_neg hin, List.length_append, List.length_singleton]
            exact HQ.out.2.2.1.step HQ.out.2.2.2.2.1 (fun r e => .inl (by cases e; omega))
          · rw [htk]
            have hf : grp (keyF b) (ts.take k ++ [u]) = fun q => if q = p then grp (keyF b) (ts.take k) p ++ [u] else grp (keyF b) (ts.take k) q := by
              funext q
              rw [grp_snoc, hkp]
              by_cases hq : q = p
              · subst hq; simp
              · simp [hq]
            rw [hf]
            exact HQ.out.2.2.2.2.2.1.step HQ.out.2.2.2.2.1 (fun r e => .inl (by cases e; omega))
          · exact HQ.out.2.2.2.2.2.2.grown HQ.out.2.2.2.2.1 (by have := HQ.out.2.2.2.2.2.2.size; omega) (fun r e => by cases e; exact Nat.le_refl _)
        case measure => simp [intOf]; omega
    · have hke : k = ts.length := by omega
      subst hke
      rw [List.take_length] at ho6 hgp
      have c6 := hb6.cell
      have f6 := hb6.frozen
      obtain ⟨A6, n6, rfl⟩ := ho6.form
      have hsz : w.heap.size + 3 ≤ wr.heap.size := by have := hb6.lt; omega
      have hkl : (keysOf (keyF b) ts).length ≤ ts.length := keysOf_length _ _
      have hal : ∀ t ∈ ts, fitsT t := hft
      rcases ho6.place.2 with ⟨he, rfl⟩ | ⟨g6, rfl, hg6, hg6l⟩
      · rw [he] at ho6 c6 hb6
        have H := hide (And.intro hb5 (And.intro hb6 (And.intro ho6 (And.intro hmp (And.intro hgp (And.intro hB (And.intro he hs)))))))
        clear hb5 hb6 ho6 hmp hgp hB hs he
        go_wp2_with fail
        refine (sort_pt_none _ _ _ _).mono ?_
        rintro e w1 ⟨rfl, rfl⟩
        go_wp2
        go_ret
        refine ⟨rfl, ⟨m, none, n6, ts.length, H.out.1, ?_, ?_, .inl ⟨H.out.2.2.2.2.2.2.1, rfl⟩, H.out.2.2.2.1, H.out.2.2.2.2.1⟩, H.out.2.2.2.2.2.1⟩
        · rw [H.out.2.2.2.2.2.2.1]; exact H.out.2.1
        · rw [H.out.2.2.2.2.2.2.1]; exact Nat.zero_le _
      · have hH := ho6.holdsK encP_len
        have hcon := sort_pt 52 (.inl rfl) g6 0 n6 (keysOf (keyF b) ts) wr hH hg6l (by omega)
        have H := hide (And.intro hb5 (And.intro hb6 (And.intro ho6 (And.intro hmp (And.intro hgp (And.intro hB hs))))))
        have HC := hide hcon
        clear hb5 hb6 ho6 hmp hgp hB hs hH hcon
        go_wp2_with fail
        refine (unhide HC).mono ?_
        rintro e w1 ⟨rfl, hg1, hH1⟩
        go_wp2
        go_ret
        have hcap := H.out.2.2.1.place.1
        have h6o := H.out.2.2.1
        have hcs := h6o.cells g6 rfl
        have hbne : ∀ B : Nat, ∀ t v, t ≠ 23 → Boxed wr B t v → B ≠ g6 := fun B t v ht hb e => by
          obtain ⟨cs, hc⟩ := hcs
          subst e
          have := (show wr.heap[B]? = _ from hb).symm.trans hc
          simp at this
          exact ht this.2
        refine ⟨rfl, ⟨m, some ⟨g6, 0, none⟩, n6, ts.length, H.out.1.kept hg1 (fun e => ?_), H.out.2.1.kept hg1 (fun e => ?_), hcap, .inr ⟨g6, rfl, hg6, by have := hg1.size; omega, Sl.of_holdsK encP_len (by have := hg1.size; omega) hH1⟩, H.out.2.2.2.1.kept hg1 (fun e => ?_), H.out.2.2.2.2.1.step hg1 (fun r e => .inr (fun cs hc => ?_))⟩,
          H.out.2.2.2.2.2.1.grown hg1 (by omega) (fun r e => by cases e; omega)⟩
        · injection e with e; omega
        · injection e with e; omega
        · injection e with e; omega
        · injection e with e
          subst e
          obtain ⟨cs', hc'⟩ := hcs
          rw [hc'] at hc
          simp at hc
end Go.Proofs.Ytgndbpkgehjelaa
/- cluster.gathered at integers. -/
namespace Go.Proofs.Ytgndbpkgehjelaa
open Go.RowKit Go.Sort Go.Shelf
theorem infoI : (Try.prog.info? 3).map (fun i => (i.zero, i.size, i.bytes)) = some (some (.int .i64 0), 1, 8) := by kernel_rfl
def GatI (w : World) (key : Nat → Pt) (xs : List Nat) (n : Nat) (wr : World) : Prop :=
  ∃ (m : Pt → Value) (v6 : Value), Boxed wr (w.heap.size + 1) 82 (.map (some w.heap.size)) ∧ Boxed wr (w.heap.size + 1 + 1) 72 v6 ∧
    Own encP 3 23 wr (w.heap.size + 3) v6 (keysOf key xs).length (keysOf key xs) ∧ MapP wr w.heap.size n m ∧ Gps encI 1 3 wr (w.heap.size + 3) m (grp key xs) ∧ Below w.heap.size w wr
def GatRI (b0 : Nat) (key : Nat → Pt) (xs : List Nat) (w' : World) : Prop :=
  ∃ (m : Pt → Value) (A6 : Option Addr) (c6 n : Nat), Boxed w' (b0 + 1) 82 (.map (some b0)) ∧ Boxed w' (b0 + 1 + 1) 72 (.slice A6 (keysOf key xs).length c6) ∧ (keysOf key xs).length ≤ c6 ∧
    (keysOf key xs = [] ∧ A6 = none ∨ ∃ g, A6 = some ⟨g, 0, none⟩ ∧ b0 + 3 ≤ g ∧ g < w'.heap.size ∧ Sl encP 3 w' w'.heap.size (some ⟨g, 0, none⟩) (sortP (keysOf key xs))) ∧
    MapP w' b0 n m ∧ Gps encI 1 3 w' (b0 + 3) m (grp key xs)
set_option maxRecDepth 100000 in
set_option maxHeartbeats 2000000 in
theorem gatI_any (A : Option Addr) (c : Nat) (key : Nat → Pt) (ts : List Nat) (bl bb bs : Nat) (w : World) (hs : Sl encI 1 w w.heap.size A ts) (hl : ts.length ≤ 4294967296) (hkf : ∀ t ∈ ts, fitsP (key t))
    (hto : ∀ u ∈ ts, ∀ X : World, Below w.heap.size w X → Calls Try.prog 43 #[.int .i64 u, .pointer (some ⟨bl, 0, none⟩), .pointer (some ⟨bb, 0, none⟩), .pointer (some ⟨bs, 0, none⟩)] X fun e w' => e = .returned (vP (key u)) ∧ Below X.heap.size X w') :
    Calls Try.prog 42 #[.slice A ts.length c, .func (.func 43) #[] #[.pointer (some ⟨bl, 0, none⟩), .pointer (some ⟨bb, 0, none⟩), .pointer (some ⟨bs, 0, none⟩)]] w fun e w' =>
      e = .returned (.func (.func 57) #[] #[.pointer (some ⟨w.heap.size + 1 + 1, 0, none⟩), .pointer (some ⟨w.heap.size + 1, 0, none⟩)]) ∧ GatRI w.heap.size key ts w' ∧ Below w.heap.size w w' := by
  have hmm := @run_makeMap Try.prog
  go_enter Try.func42, Try.ntmps42
  go_wp2
  clear hmm
  go_loopw [13] (fun i wr => ∃ k : Nat, k ≤ ts.length ∧ i = .int .i64 k ∧ GatI w key (ts.take k) k wr) (fun i _ => ts.length - (intOf i).toNat)
  case atStart =>
    refine ⟨0, Nat.zero_le _, rfl, _, _, ?_, ?_, Own.nil, ?_, Gps.nil, ?_⟩
    · have h0 := Boxed.new (w.alloc (.map #[] 0)) 82 (.map (some w.heap.size))
      rw [World.size_alloc] at h0
      exact h0.alloc _
    · have h0 := Boxed.new ((w.alloc (.map #[] 0)).alloc (.cells #[.map (some w.heap.size)] 82)) 72 (.slice none 0 0)
      rwa [World.size_alloc, World.size_alloc] at h0
    · have h0 := MapP.made w
      have h1 := h0.kept (World.grownBy_alloc _ (.cells #[.map (some w.heap.size)] 82) none) (by simp)
      exact h1.kept (World.grownBy_alloc _ (.cells #[.slice none 0 0] 72) none) (by simp)
    · exact (((Below.refl _ w).alloc (Nat.le_refl _) _).alloc (by simp) _).alloc (by simp; omega) _
  case round =>
    obtain ⟨k, hk, rfl, m, v6, hb5, hb6, ho6, hmp, hgp, hB⟩ := hrel
    by_cases hlt : k < ts.length
    · obtain ⟨u, hu⟩ : ∃ u, ts[k]? = some u := ⟨_, List.getElem?_eq_getElem hlt⟩
      obtain ⟨bA, oA, hA, hbA, hcc⟩ := (hs.below hB).at hu
      subst hA
      have g0 : wr.cell? ⟨bA, oA + k, none⟩ = some (.int .i64 u) := by have := hcc 0 _ rfl; simpa using this
      clear hcc
      have hum : u ∈ ts := List.mem_of_getElem? hu
      have hsz : w.heap.size + 3 ≤ wr.heap.size := by have := hb6.lt; omega
      have H := hide (And.intro hb5 (And.intro hb6 (And.intro ho6 (And.intro hmp (And.intro hgp (And.intro hB (And.intro hu hs)))))))
      clear hb5 hb6 ho6 hmp hgp hB hu hs
      go_wp2_with fail
      refine (hto u hum wr H.out.2.2.2.2.2.1).mono ?_
      rintro e w1 ⟨rfl, hB1⟩
      obtain ⟨p, hp⟩ : ∃ p, p = key u := ⟨_, rfl⟩
      rw [← hp]
      have hpf : fitsP p := by rw [hp]; exact hkf u hum
      have HP := hide hp
      have HPF := hide hpf
      have hBw : Below wr.heap.size wr w1 := hB1
      have hsz1 : wr.heap.size ≤ w1.heap.size := hB1.size
      -- the world behind p's variable
      obtain ⟨W2, hW2⟩ : ∃ W2, W2 = w1.alloc (.cells #[.int .i64 p.1, .int .i64 p.2.1, .int .i64 p.2.2] 23) := ⟨_, rfl⟩
      have hB2 : Below wr.heap.size wr W2 := by rw [hW2]; exact hBw.alloc (by omega) _
      have h25 : Boxed W2 (w.heap.size + 1) 82 (.map (some w.heap.size)) := boxed_below H.out.1 hB2 (by omega)
      have h26 : Boxed W2 (w.heap.size + 1 + 1) 72 v6 := boxed_below H.out.2.1 hB2 (by omega)
      have h2o := H.out.2.2.1.below hB2 (Nat.le_refl _)
      have h2m := map_below H.out.2.2.2.1 hB2 (Nat.le_refl _)
      have h2g := H.out.2.2.2.2.1.below hB2 (Nat.le_refl _)
      have h2B : Below w.heap.size w W2 := H.out.2.2.2.2.2.1.trans (hB2.mono (by omega))
      have h2p : Blk W2 w1.heap.size 23 #[.int .i64 p.1, .int .i64 p.2.1, .int .i64 p.2.2] := by rw [hW2]; exact Blk.new _ _ _
      have hsz2 : W2.heap.size = w1.heap.size + 1 := by rw [hW2]; simp
      have hqs := fun A n c => run_eql_slice_nil W2 31 3 A n c Try.underlying31
      have hlk := h2m.lookup (t := 82) (e := 31) Try.underlying82 rfl p hpf
      have c25 := h25.cell
      have c26 := h26.cell
      have f26 := h26.frozen
      obtain ⟨A6, n6, rfl⟩ := h2o.form
      have hkl : (keysOf key (ts.take k)).length ≤ k := Nat.le_trans (keysOf_length _ _) (by simp; omega)
      by_cases hin : p ∈ keysOf key (ts.take k)
      · -- a known point
        have hgne : grp key (ts.take k) p ≠ [] := fun e => (grp_nil key).1 e hin
        obtain ⟨gm, cm, hmv, _, _⟩ := (h2g.1 p).at hgne
        rw [hmv] at hlk
        clear hmv
        rw [hW2] at hlk c25 hqs
        have HL := hide (And.intro h25 (And.intro h26 (And.intro h2o (And.intro h2m (And.intro h2g (And.intro h2B h2p))))))
        have HW2 := hide hW2
        clear h25 h26 h2o h2m h2g h2B h2p hW2 hp hpf hB1 hB2 hBw c26 f26 hgne
        go_wp2_with fail
        clear hlk c25 hqs
        rw [← HW2.out]
        obtain ⟨V, hV⟩ : ∃ V, V = W2 := ⟨_, rfl⟩
        rw [← hV] at HL ⊢
        have hV5 := HL.out.1
        have hV6 := HL.out.2.1
        have hVo6 := HL.out.2.2.1
        have hVm := HL.out.2.2.2.1
        have hVg := HL.out.2.2.2.2.1
        have hVB := HL.out.2.2.2.2.2.1
        have hVp := HL.out.2.2.2.2.2.2
        have hVsz : w.heap.size + 3 ≤ V.heap.size := by rw [hV]; omega
        clear HL HW2 hV hsz2
        have cV5 := hV5.cell
        have cp0 := hVp.cell 0
        have cp1 := hVp.cell 1
        have cp2 := hVp.cell 2
        simp only [List.getElem?_toArray, List.getElem?_cons_zero, List.getElem?_cons_succ] at cp0 cp1 cp2
        have hzl : ∀ W, (zeroValue 31).run Try.prog W = .ok (.slice none 0 0) W := fun _ => rfl
        have hVo := hVg.1 p
        obtain ⟨mA, mc, hme⟩ := hVo.form
        have HV := hide (And.intro hV5 (And.intro hV6 (And.intro hVo6 (And.intro hVm (And.intro hVg (And.intro hVB hVp))))))
        have HM := hide hme
        have hszV : w.heap.size + 3 ≤ V.heap.size := hVsz
        have hsV : w1.heap.size < V.heap.size := hVp.lt
        have hsV2 : wr.heap.size < V.heap.size := by omega
        have hS : V.drew.cell? ⟨w.heap.size + 1, 0, none⟩ = some (.map (some w.heap.size)) ∧ (V.drew.cell? ⟨w1.heap.size, 0, none⟩ = some (.int .i64 p.1) ∧ V.drew.cell? ⟨w1.heap.size, 1, none⟩ = some (.int .i64 p.2.1) ∧ V.drew.cell? ⟨w1.heap.size, 2, none⟩ = some (.int .i64 p.2.2)) ∧ MapP V.drew w.heap.size k m := ⟨cV5, ⟨cp0, cp1, cp2⟩, hVm⟩
        have HSd := hide hS
        clear hV5 hV6 hVo6 hVm hVg hVB hVp hme hS
        go_wp2_with fail
        refine wp_region_mix (fun w' => w'.cell? ⟨w.heap.size + 1, 0, none⟩ = some (.map (some w.heap.size)) ∧ (w'.cell? ⟨w1.heap.size, 0, none⟩ = some (.int .i64 p.1) ∧ w'.cell? ⟨w1.heap.size, 1, none⟩ = some (.int .i64 p.2.1) ∧ w'.cell? ⟨w1.heap.size, 2, none⟩ = some (.int .i64 p.2.2)) ∧ MapP w' w.heap.size k m) [0, 1, 2, 3, 4] [0, 1, 2, 3, 4, 5, 6, 7, 8] mixed_ok (by kernel_rfl) ?_
        refine wpMix_q (v := .map (some w.heap.size)) rfl rfl (fun _ _ _ h => h) HSd.out ⟨rfl, fun W' h' => by simp [go_sem, h'.1]⟩ ?_
        refine wpMix_q (v := vP p) rfl rfl (fun _ _ _ h => h) HSd.out ⟨rfl, fun W' h' => by simp [go_sem, h'.2.1.1, h'.2.1.2.1, h'.2.1.2.2]⟩ ?_
        refine wpMix_q (v := .map (some w.heap.size)) rfl rfl (fun _ _ _ h => h) HSd.out ⟨rfl, fun W' h' => by simp [go_sem, h'.1]⟩ ?_
        refine wpMix_q (v := vP p) rfl rfl (fun _ _ _ h => h) HSd.out ⟨rfl, fun W' h' => by simp [go_sem, h'.2.1.1, h'.2.1.2.1, h'.2.1.2.2]⟩ ?_
        refine wpMix_q (v := m p) rfl rfl (fun _ _ _ h => h) HSd.out ⟨rfl, fun W' h' => by simp [execOp, go_sem, h'.2.2.lookup Try.underlying82 (hzl W') p HPF.out]⟩ ?_
        refine wpMix_n rfl rfl ?_
        go_wp2_with fail
        refine ⟨fun _ => HSd.out, ?_⟩
        refine wpMix_n rfl rfl ?_
        go_wp2_with fail
        have hal : Below V.heap.size V (V.alloc (.cells #[.int .i64 u] 3)).drew := ((Below.refl _ V).alloc (Nat.le_refl _) _).drew
        have hS6 : (V.alloc (.cells #[.int .i64 u] 3)).drew.cell? ⟨w.heap.size + 1, 0, none⟩ = some (.map (some w.heap.size)) ∧ ((V.alloc (.cells #[.int .i64 u] 3)).drew.cell? ⟨w1.heap.size, 0, none⟩ = some (.int .i64 p.1) ∧ (V.alloc (.cells #[.int .i64 u] 3)).drew.cell? ⟨w1.heap.size, 1, none⟩ = some (.int .i64 p.2.1) ∧ (V.alloc (.cells #[.int .i64 u] 3)).drew.cell? ⟨w1.heap.size, 2, none⟩ = some (.int .i64 p.2.2)) ∧ MapP (V.alloc (.cells #[.int .i64 u] 3)).drew w.heap.size k m :=
          ⟨(hal.cell (p := ⟨w.heap.size + 1, 0, none⟩) (show w.heap.size + 1 < V.heap.size by omega)).trans cV5, ⟨(hal.cell (p := ⟨w1.heap.size, 0, none⟩) hsV).trans cp0, (hal.cell (p := ⟨w1.heap.size, 1, none⟩) hsV).trans cp1, (hal.cell (p := ⟨w1.heap.size, 2, none⟩) hsV).trans cp2⟩, map_below HV.out.2.2.2.1 hal (Nat.le_refl _)⟩
        have HS6 := hide hS6
        clear hS6
        refine ⟨fun _ => HS6.out, ?_⟩
        have hg6 : Gps encI 1 3 (V.alloc (.cells #[.int .i64 u] 3)).drew (w.heap.size + 3) m (grp key (ts.take k)) := HV.out.2.2.2.2.1.below hal (Nat.le_refl _)
        have hgl : (grp key (ts.take k) p).length ≤ k := Nat.le_trans (grp_length _ _ _) (by simp; omega)
        have hom := hg6.1 p
        have HG6 := hide hg6
        clear hg6
        refine wpMix_n rfl rfl ?_
        rw [HM.out] at hom ⊢
        obtain ⟨ng, hng⟩ : ∃ ng, ng = (grp key (ts.take k) p).length := ⟨_, rfl⟩
        rw [← hng] at hom hgl ⊢
        have HNG := hide hng
        clear hng
        simp only [List.getElem_toArray, List.getElem_cons_succ, List.getElem_cons_zero]
        refine wpList_append1 rfl _ _ _ rfl Try.underlying31 infoI rfl (by omega) encI_len encI_one rfl hom V.heap.size 1 u rfl (Blk.new V _ _).drew (by unfold maxLen; omega) (by omega) (by simp [World.drew]; omega) ?_; intro g cap w6 hown6 hg6 hB6 hat6 hgb6 hlt6
        have hgY : Gps encI 1 3 (V.alloc (.cells #[.int .i64 u] 3)).drew (w.heap.size + 3) m (grp key (ts.take k)) := HG6.out
        have hpY : Blk (V.alloc (.cells #[.int .i64 u] 3)).drew w1.heap.size 23 #[.int .i64 p.1, .int .i64 p.2.1, .int .i64 p.2.2] := (HV.out.2.2.2.2.2.2.alloc _).drew
        have hoY : Own encI 1 3 (V.alloc (.cells #[.int .i64 u] 3)).drew (w.heap.size + 3) (.slice mA ng mc) ng (grp key (ts.take k) p) := hom
        have hp6 := hpY.grown hg6 (own_not_blk hoY hpY (by decide))
        have hb65 : Boxed w6 (w.heap.size + 1) 82 (.map (some w.heap.size)) := boxed_below (boxed_below HV.out.1 hal (by omega)) hB6 (by omega)
        have hb66 := boxed_below (boxed_below HV.out.2.1 hal (by omega)) hB6 (by omega)
        have ho66 := (HV.out.2.2.1.below hal (Nat.le_refl _)).step hg6 (own_row hoY (by decide))
        have hm6 : MapP w6 w.heap.size k m := HS6.out.2.2.kept hg6 (fun e' => by have := (hoY.blk _ e'.symm).1; omega)
        have hgm : (m p).ownBlock = (Value.slice mA ng mc).ownBlock := by rw [HM.out, ← HNG.out]
        have hg66 := hgY.append p u (v' := .slice (some ⟨g, 0, none⟩) (ng + 1) cap) (n := ng + 1) (g := g) (by rw [hgm]; exact hg6) hown6 rfl (by rw [hgm]; exact hat6)
        have hB66 : Below w.heap.size w w6 := (HV.out.2.2.2.2.2.1.trans (hal.mono (by omega))).trans (hB6.mono (by omega))
        obtain ⟨w7, hrun, hm7, hg7⟩ := hm6.update (t := 82) (e := 31) Try.underlying82 (by unfold maxLen; omega) p HPF.out (.slice (some ⟨g, 0, none⟩) (ng + 1) cap)
        have q0 := hp6.cell 0
        have q1 := hp6.cell 1
        have q2 := hp6.cell 2
        simp only [List.getElem?_toArray, List.getElem?_cons_zero, List.getElem?_cons_succ] at q0 q1 q2
        have HQ := hide (And.intro hb65 (And.intro hb66 (And.intro ho66 (And.intro hm7 (And.intro hg7 (And.intro hg66 hB66))))))
        have c65 := hb65.cell
        go_wp2_with fail
        refine ⟨fun _ => ⟨c65, ⟨q0, q1, q2⟩, hm6⟩, ?_⟩
        refine wpMix_tail _ [_] (by kernel_rfl) rfl ?_
        simp only [List.getElem_toArray, List.getElem_cons_succ, List.getElem_cons_zero]
        clear hb65 hb66 ho66 hm7 hg7 hg66 hB66 c65 q0 q1 q2 hm6 hgm hp6 hoY hpY hgY hom hown6 hg6 hB6 hal cV5 cp0 cp1 cp2
        go_wp2
        go_roundw
        case rel =>
          have htk : ts.take (k + 1) = ts.take k ++ [u] := by rw [List.take_add_one, H.out.2.2.2.2.2.2.1]; rfl
          have hkp : key u = p := HP.out.symm
          refine ⟨k + 1, by omega, by go_num, _, _, HQ.out.1.kept HQ.out.2.2.2.2.1 (fun e => by injection e with e; omega), HQ.out.2.1.kept HQ.out.2.2.2.2.1 (fun e => by injection e with e; omega), ?_, HQ.out.2.2.2.1, ?_, ?_⟩
          · rw [htk, keysOf_snoc, hkp]
            unfold addKey
            rw [if_pos hin]
            exact HQ.out.2.2.1.step HQ.out.2.2.2.2.1 (fun r e => .inl (by cases e; omega))
          · rw [htk]
            have hf : grp key (ts.take k ++ [u]) = fun q => if q = p then grp key (ts.take k) p ++ [u] else grp key (ts.take k) q := by
              funext q
              rw [grp_snoc, hkp]
              by_cases hq : q = p
              · subst hq; simp
              · simp [hq]
            rw [hf]
            exact HQ.out.2.2.2.2.2.1.step HQ.out.2.2.2.2.1 (fun r e => .inl (by cases e; omega))
          · exact HQ.out.2.2.2.2.2.2.grown HQ.out.2.2.2.2.1 (by have := HQ.out.2.2.2.2.2.2.size; omega) (fun r e => by cases e; exact Nat.le_refl _)
        case measure => simp [intOf]; omega
      · -- a new point
        have hmv : m p = .slice none 0 0 := h2g.2.2 p ((grp_nil key).2 hin)
        rw [hmv] at hlk
        clear hmv
        obtain ⟨Y2, hY2⟩ : ∃ Y2, Y2 = W2.alloc (.cells #[.int .i64 p.1, .int .i64 p.2.1, .int .i64 p.2.2] 23) := ⟨_, rfl⟩
        have hgY : W2.grownBy Y2 none := by rw [hY2]; exact World.grownBy_alloc _ _ _
        have hBY : Below W2.heap.size W2 Y2 := by rw [hY2]; exact (Below.refl _ W2).alloc (Nat.le_refl _) _
        have hyo := h2o.below hBY (Nat.le_refl _)
        have hyp : Blk Y2 (w1.heap.size + 1) 23 #[.int .i64 p.1, .int .i64 p.2.1, .int .i64 p.2.2] := by rw [hY2]; exact Blk.new' _ _ _ _ (by omega)
        have hszY : Y2.heap.size = w1.heap.size + 2 := by rw [hY2]; simp; omega
        have hbx := boxed_below h26 hBY (by omega)
        have hY2' := hY2
        rw [hW2] at hY2' hlk c25 hqs c26 f26
        have HL := hide (And.intro h25 (And.intro h26 (And.intro h2o (And.intro h2m (And.intro h2g (And.intro h2B (And.intro h2p hBY)))))))
        have HW2 := hide hW2
        have hyo' := hyo
        have hyp' := hyp
        have hbx' := hbx
        rw [hY2'] at hyo' hyp' hbx'
        have HY := hide (And.intro hyo (And.intro hyp hbx))
        have HY2 := hide hY2'
        clear h25 h26 h2o h2m h2g h2B h2p hW2 hp hpf hB1 hB2 hBw hY2 hY2' hyo hyp hbx hBY hgY
        go_wp2_with (at_builtin; refine wpList_append1 rfl _ _ _ rfl Try.underlying72 infoP rfl (by omega) encP_len encP_one rfl hyo' (w1.heap.size + 1) 1 p rfl hyp' (by unfold maxLen; omega) (by omega) (by simp; omega) ?_; intro g3 cap3 w3 hown3 hg3 hB3 hat3 hgb3 hlt3; have hbx3 := hbx'.kept hg3 (hbx'.not_row (by decide) hyo'.2); have c36 := hbx3.cell; have f36 := hbx3.frozen)
        have hg3' : Y2.grownBy w3 (Value.slice A6 (keysOf key (ts.take k)).length n6).ownBlock := by rw [HY2.out]; exact hg3
        obtain ⟨V, hV⟩ : ∃ V, V = w3.setCell ⟨w.heap.size + 1 + 1, 0, none⟩ (.slice (some ⟨g3, 0, none⟩) ((keysOf key (ts.take k)).length + 1) cap3) := ⟨_, rfl⟩
        rw [← hV]
        have hgV : w3.grownBy V (some (w.heap.size + 1 + 1)) := by rw [hV]; exact grownBy_setCell' _ _ _
        have hYB : Below W2.heap.size W2 Y2 := HL.out.2.2.2.2.2.2.2
        have hrow := own_row (t := 3) HY.out.1 (by decide)
        have hV6 : Boxed V (w.heap.size + 1 + 1) 72 (.slice (some ⟨g3, 0, none⟩) ((keysOf key (ts.take k)).length + 1) cap3) := by rw [hV]; exact hbx3.set _
        have hy5 : Boxed Y2 (w.heap.size + 1) 82 (.map (some w.heap.size)) := boxed_below HL.out.1 hYB (by omega)
        have hV5 : Boxed V (w.heap.size + 1) 82 (.map (some w.heap.size)) := (hy5.kept hg3' (hy5.not_row (by decide) HY.out.1.2)).kept hgV (fun e => by injection e with e; omega)
        have hVo6 := hown3.step hgV (fun r e => .inl (by cases e; omega))
        have hVm : MapP V w.heap.size k m := ((map_below HL.out.2.2.2.1 hYB (Nat.le_refl _)).kept hg3' (fun e => by have := (HY.out.1.blk _ e.symm).1; omega)).kept hgV (fun e => by injection e with e; omega)
        have hVg : Gps encI 1 3 V (w.heap.size + 3) m (grp key (ts.take k)) := ((HL.out.2.2.2.2.1.below hYB (Nat.le_refl _)).step hg3' hrow).step hgV (fun r e => .inl (by cases e; omega))
        have hVB : Below w.heap.size w V := ((HL.out.2.2.2.2.2.1.trans (hYB.mono (by omega))).grown hg3' (by omega) (fun r e => by have := (HY.out.1.blk _ e).1; omega)).grown hgV (by have := hg3'.size; omega) (fun r e => by cases e; omega)
        have hold : ∀ r, (Value.slice A6 (keysOf key (ts.take k)).length n6).ownBlock = some r → r < wr.heap.size := fun r e => (H.out.2.2.1.blk _ e).2
        have hVp : Blk V w1.heap.size 23 #[.int .i64 p.1, .int .i64 p.2.1, .int .i64 p.2.2] := ((HL.out.2.2.2.2.2.2.1.below hYB (by omega)).grown hg3' (fun e => by have := hold _ e.symm; omega)).grown hgV (fun e => by injection e with e; omega)
        have hVsz : w.heap.size + 3 ≤ V.heap.size := by have := hg3'.size; have := hgV.size; omega
        clear HL HW2 hV hsz2 hgV hYB hrow hy5 hg3' hg3 hB3 hown3 hbx3 c36 f36 hbx' hyo' hyp' HY HY2 hold hlk c25 hqs c26 f26
        have cV5 := hV5.cell
        have cp0 := hVp.cell 0
        have cp1 := hVp.cell 1
        have cp2 := hVp.cell 2
        simp only [List.getElem?_toArray, List.getElem?_cons_zero, List.getElem?_cons_succ] at cp0 cp1 cp2
        have hzl : ∀ W, (zeroValue 31).run Try.prog W = .ok (.slice none 0 0) W := fun _ => rfl
        have hVo := hVg.1 p
        obtain ⟨mA, mc, hme⟩ := hVo.form
        have HV := hide (And.intro hV5 (And.intro hV6 (And.intro hVo6 (And.intro hVm (And.intro hVg (And.intro hVB hVp))))))
        have HM := hide hme
        have hszV : w.heap.size + 3 ≤ V.heap.size := hVsz
        have hsV : w1.heap.size < V.heap.size := hVp.lt
        have hsV2 : wr.heap.size < V.heap.size := by omega
        have hS : V.drew.cell? ⟨w.heap.size + 1, 0, none⟩ = some (.map (some w.heap.size)) ∧ (V.drew.cell? ⟨w1.heap.size, 0, none⟩ = some (.int .i64 p.1) ∧ V.drew.cell? ⟨w1.heap.size, 1, none⟩ = some (.int .i64 p.2.1) ∧ V.drew.cell? ⟨w1.heap.size, 2, none⟩ = some (.int .i64 p.2.2)) ∧ MapP V.drew w.heap.size k m := ⟨cV5, ⟨cp0, cp1, cp2⟩, hVm⟩
        have HSd := hide hS
        clear hV5 hV6 hVo6 hVm hVg hVB hVp hme hS
        go_wp2_with fail
        refine wp_region_mix (fun w' => w'.cell? ⟨w.heap.size + 1, 0, none⟩ = some (.map (some w.heap.size)) ∧ (w'.cell? ⟨w1.heap.size, 0, none⟩ = some (.int .i64 p.1) ∧ w'.cell? ⟨w1.heap.size, 1, none⟩ = some (.int .i64 p.2.1) ∧ w'.cell? ⟨w1.heap.size, 2, none⟩ = some (.int .i64 p.2.2)) ∧ MapP w' w.heap.size k m) [0, 1, 2, 3, 4] [0, 1, 2, 3, 4, 5, 6, 7, 8] mixed_ok (by kernel_rfl) ?_
        refine wpMix_q (v := .map (some w.heap.size)) rfl rfl (fun _ _ _ h => h) HSd.out ⟨rfl, fun W' h' => by simp [go_sem, h'.1]⟩ ?_
        refine wpMix_q (v := vP p) rfl rfl (fun _ _ _ h => h) HSd.out ⟨rfl, fun W' h' => by simp [go_sem, h'.2.1.1, h'.2.1.2.1, h'.2.1.2.2]⟩ ?_
        refine wpMix_q (v := .map (some w.heap.size)) rfl rfl (fun _ _ _ h => h) HSd.out ⟨rfl, fun W' h' => by simp [go_sem, h'.1]⟩ ?_
        refine wpMix_q (v := vP p) rfl rfl (fun _ _ _ h => h) HSd.out ⟨rfl, fun W' h' => by simp [go_sem, h'.2.1.1, h'.2.1.2.1, h'.2.1.2.2]⟩ ?_
        refine wpMix_q (v := m p) rfl rfl (fun _ _ _ h => h) HSd.out ⟨rfl, fun W' h' => by simp [execOp, go_sem, h'.2.2.lookup Try.underlying82 (hzl W') p HPF.out]⟩ ?_
        refine wpMix_n rfl rfl ?_
        go_wp2_with fail
        refine ⟨fun _ => HSd.out, ?_⟩
        refine wpMix_n rfl rfl ?_
        go_wp2_with fail
        have hal : Below V.heap.size V (V.alloc (.cells #[.int .i64 u] 3)).drew := ((Below.refl _ V).alloc (Nat.le_refl _) _).drew
        have hS6 : (V.alloc (.cells #[.int .i64 u] 3)).drew.cell? ⟨w.heap.size + 1, 0, none⟩ = some (.map (some w.heap.size)) ∧ ((V.alloc (.cells #[.int .i64 u] 3)).drew.cell? ⟨w1.heap.size, 0, none⟩ = some (.int .i64 p.1) ∧ (V.alloc (.cells #[.int .i64 u] 3)).drew.cell? ⟨w1.heap.size, 1, none⟩ = some (.int .i64 p.2.1) ∧ (V.alloc (.cells #[.int .i64 u] 3)).drew.cell? ⟨w1.heap.size, 2, none⟩ = some (.int .i64 p.2.2)) ∧ MapP (V.alloc (.cells #[.int .i64 u] 3)).drew w.heap.size k m :=
          ⟨(hal.cell (p := ⟨w.heap.size + 1, 0, none⟩) (show w.heap.size + 1 < V.heap.size by omega)).trans cV5, ⟨(hal.cell (p := ⟨w1.heap.size, 0, none⟩) hsV).trans cp0, (hal.cell (p := ⟨w1.heap.size, 1, none⟩) hsV).trans cp1, (hal.cell (p := ⟨w1.heap.size, 2, none⟩) hsV).trans cp2⟩, map_below HV.out.2.2.2.1 hal (Nat.le_refl _)⟩
        have HS6 := hide hS6
        clear hS6
        refine ⟨fun _ => HS6.out, ?_⟩
        have hg6 : Gps encI 1 3 (V.alloc (.cells #[.int .i64 u] 3)).drew (w.heap.size + 3) m (grp key (ts.take k)) := HV.out.2.2.2.2.1.below hal (Nat.le_refl _)
        have hgl : (grp key (ts.take k) p).length ≤ k := Nat.le_trans (grp_length _ _ _) (by simp; omega)
        have hom := hg6.1 p
        have HG6 := hide hg6
        clear hg6
        refine wpMix_n rfl rfl ?_
        rw [HM.out] at hom ⊢
        obtain ⟨ng, hng⟩ : ∃ ng, ng = (grp key (ts.take k) p).length := ⟨_, rfl⟩
        rw [← hng] at hom hgl ⊢
        have HNG := hide hng
        clear hng
        simp only [List.getElem_toArray, List.getElem_cons_succ, List.getElem_cons_zero]
        refine wpList_append1 rfl _ _ _ rfl Try.underlying31 infoI rfl (by omega) encI_len encI_one rfl hom V.heap.size 1 u rfl (Blk.new V _ _).drew (by unfold maxLen; omega) (by omega) (by simp [World.drew]; omega) ?_; intro g cap w6 hown6 hg6 hB6 hat6 hgb6 hlt6
        have hgY : Gps encI 1 3 (V.alloc (.cells #[.int .i64 u] 3)).drew (w.heap.size + 3) m (grp key (ts.take k)) := HG6.out
        have hpY : Blk (V.alloc (.cells #[.int .i64 u] 3)).drew w1.heap.size 23 #[.int .i64 p.1, .int .i64 p.2.1, .int .i64 p.2.2] := (HV.out.2.2.2.2.2.2.alloc _).drew
        have hoY : Own encI 1 3 (V.alloc (.cells #[.int .i64 u] 3)).drew (w.heap.size + 3) (.slice mA ng mc) ng (grp key (ts.take k) p) := hom
        have hp6 := hpY.grown hg6 (own_not_blk hoY hpY (by decide))
        have hb65 : Boxed w6 (w.heap.size + 1) 82 (.map (some w.heap.size)) := boxed_below (boxed_below HV.out.1 hal (by omega)) hB6 (by omega)
        have hb66 := boxed_below (boxed_below HV.out.2.1 hal (by omega)) hB6 (by omega)
        have ho66 := (HV.out.2.2.1.below hal (Nat.le_refl _)).step hg6 (own_row hoY (by decide))
        have hm6 : MapP w6 w.heap.size k m := HS6.out.2.2.kept hg6 (fun e' => by have := (hoY.blk _ e'.symm).1; omega)
        have hgm : (m p).ownBlock = (Value.slice mA ng mc).ownBlock := by rw [HM.out, ← HNG.out]
        have hg66 := hgY.append p u (v' := .slice (some ⟨g, 0, none⟩) (ng + 1) cap) (n := ng + 1) (g := g) (by rw [hgm]; exact hg6) hown6 rfl (by rw [hgm]; exact hat6)
        have hB66 : Below w.heap.size w w6 := (HV.out.2.2.2.2.2.1.trans (hal.mono (by omega))).trans (hB6.mono (by omega))
        obtain ⟨w7, hrun, hm7, hg7⟩ := hm6.update (t := 82) (e := 31) Try.underlying82 (by unfold maxLen; omega) p HPF.out (.slice (some ⟨g, 0, none⟩) (ng + 1) cap)
        have q0 := hp6.cell 0
        have q1 := hp6.cell 1
        have q2 := hp6.cell 2
        simp only [List.getElem?_toArray, List.getElem?_cons_zero, List.getElem?_cons_succ] at q0 q1 q2
        have HQ := hide (And.intro hb65 (And.intro hb66 (And.intro ho66 (And.intro hm7 (And.intro hg7 (And.intro hg66 hB66))))))
        have c65 := hb65.cell
        go_wp2_with fail
        refine ⟨fun _ => ⟨c65, ⟨q0, q1, q2⟩, hm6⟩, ?_⟩
        refine wpMix_tail _ [_] (by kernel_rfl) rfl ?_
        simp only [List.getElem_toArray, List.getElem_cons_succ, List.getElem_cons_zero]
        clear hb65 hb66 ho66 hm7 hg7 hg66 hB66 c65 q0 q1 q2 hm6 hgm hp6 hoY hpY hgY hom hown6 hg6 hB6 hal cV5 cp0 cp1 cp2
        go_wp2
        go_roundw
        case rel =>
          have htk : ts.take (k + 1) = ts.take k ++ [u] := by rw [List.take_add_one, H.out.2.2.2.2.2.2.1]; rfl
          have hkp : key u = p := HP.out.symm
          refine ⟨k + 1, by omega, by go_num, _, _, HQ.out.1.kept HQ.out.2.2.2.2.1 (fun e => by injection e with e; omega), HQ.out.2.1.kept HQ.out.2.2.2.2.1 (fun e => by injection e with e; omega), ?_, HQ.out.2.2.2.1, ?_, ?_⟩
          · rw [htk, keysOf_snoc, hkp]
            unfold addKey
            rw [if_neg hin, List.length_append, List.length_singleton]
            exact HQ.out.2.2.1.step HQ.out.2.2.2.2.1 (fun r e => .inl (by cases e; omega))
          · rw [htk]
            have hf : grp key (ts.take k ++ [u]) = fun q => if q = p then grp key (ts.take k) p ++ [u] else grp key (ts.take k) q := by
              funext q
              rw [grp_snoc, hkp]
              by_cases hq : q = p
              · subst hq; simp
              · simp [hq]
            rw [hf]
            exact HQ.out.2.2.2.2.2.1.step HQ.out.2.2.2.2.1 (fun r e => .inl (by cases e; omega))
          · exact HQ.out.2.2.2.2.2.2.grown HQ.out.2.2.2.2.1 (by have := HQ.out.2.2.2.2.2.2.size; omega) (fun r e => by cases e; exact Nat.le_refl _)
        case measure => simp [intOf]; omega
    · have hke : k = ts.length := by omega
      subst hke
      rw [List.take_length] at ho6 hgp
      have c6 := hb6.cell
      have f6 := hb6.frozen
      obtain ⟨A6, n6, rfl⟩ := ho6.form
      have hsz : w.heap.size + 3 ≤ wr.heap.size := by have := hb6.lt; omega
      have hkl : (keysOf key ts).length ≤ ts.length := keysOf_length _ _
      rcases ho6.place.2 with ⟨he, rfl⟩ | ⟨g6, rfl, hg6, hg6l⟩
      · rw [he] at ho6 c6 hb6
        have H := hide (And.intro hb5 (And.intro hb6 (And.intro ho6 (And.intro hmp (And.intro hgp (And.intro hB (And.intro he hs)))))))
        clear hb5 hb6 ho6 hmp hgp hB hs he
        go_wp2_with fail
        refine (sort_pt_none _ _ _ _).mono ?_
        rintro e w1 ⟨rfl, rfl⟩
        go_wp2
        go_ret
        refine ⟨rfl, ⟨m, none, n6, ts.length, H.out.1, ?_, ?_, .inl ⟨H.out.2.2.2.2.2.2.1, rfl⟩, H.out.2.2.2.1, H.out.2.2.2.2.1⟩, H.out.2.2.2.2.2.1⟩
        · rw [H.out.2.2.2.2.2.2.1]; exact H.out.2.1
        · rw [H.out.2.2.2.2.2.2.1]; exact Nat.zero_le _
      · have hH := ho6.holdsK encP_len
        have hcon := sort_pt 56 (.inr rfl) g6 0 n6 (keysOf key ts) wr hH hg6l (by omega)
        have H := hide (And.intro hb5 (And.intro hb6 (And.intro ho6 (And.intro hmp (And.intro hgp (And.intro hB hs))))))
        have HC := hide hcon
        clear hb5 hb6 ho6 hmp hgp hB hs hH hcon
        go_wp2_with fail
        refine (unhide HC).mono ?_
        rintro e w1 ⟨rfl, hg1, hH1⟩
        go_wp2
        go_ret
        have hcap := H.out.2.2.1.place.1
        have h6o := H.out.2.2.1
        have hcs := h6o.cells g6 rfl
        have hbne : ∀ B : Nat, ∀ t v, t ≠ 23 → Boxed wr B t v → B ≠ g6 := fun B t v ht hb e => by
          obtain ⟨cs, hc⟩ := hcs
          subst e
          have := (show wr.heap[B]? = _ from hb).symm.trans hc
          simp at this
          exact ht this.2
        refine ⟨rfl, ⟨m, some ⟨g6, 0, none⟩, n6, ts.length, H.out.1.kept hg1 (fun e => ?_), H.out.2.1.kept hg1 (fun e => ?_), hcap, .inr ⟨g6, rfl, hg6, by have := hg1.size; omega, Sl.of_holdsK encP_len (by have := hg1.size; omega) hH1⟩, H.out.2.2.2.1.kept hg1 (fun e => ?_), H.out.2.2.2.2.1.step hg1 (fun r e => .inr (fun cs hc => ?_))⟩,
          H.out.2.2.2.2.2.1.grown hg1 (by omega) (fun r e => by cases e; omega)⟩
        · injection e with e; omega
        · injection e with e; omega
        · injection e with e; omega
        · injection e with e
          subst e
          obtain ⟨cs', hc'⟩ := hcs
          rw [hc'] at hc
          simp at hc
end Go.Proofs.Ytgndbpkgehjelaa
/- ref04.Moved. -/
namespace Go.Proofs.Ytgndbpkgehjelaa
open Go.RowKit
def movP (v p : Pt) : Pt := (wrap64 (p.1 + v.1), wrap64 (p.2.1 + v.2.1), wrap64 (p.2.2 + v.2.2))
def movN (v : Pt) (t : Tri) : Nat → Tri
  | 0 => t
  | 1 => (movP v t.1, t.2.1, t.2.2)
  | 2 => (movP v t.1, movP v t.2.1, t.2.2)
  | _ => (movP v t.1, movP v t.2.1, movP v t.2.2)
def movT (v : Pt) (t : Tri) : Tri := movN v t 3
def nineT (t : Tri) : Array Value := #[.int .i64 t.1.1, .int .i64 t.1.2.1, .int .i64 t.1.2.2, .int .i64 t.2.1.1, .int .i64 t.2.1.2.1, .int .i64 t.2.1.2.2, .int .i64 t.2.2.1, .int .i64 t.2.2.2.1, .int .i64 t.2.2.2.2]
theorem nineT_eq (t : Tri) : nineT t = (encT t).toArray := rfl
set_option maxRecDepth 100000 in
set_option maxHeartbeats 4000000 in
theorem moved_any (A : Option Addr) (c : Nat) (ts : List Tri) (v : Pt) (w : World) (hs : Sl encT 9 w w.heap.size A ts) (hl : ts.length ≤ 4294967296) :
    Calls Try.prog 30 #[.slice A ts.length c, vP v] w fun e w' => ∃ u, e = .returned u ∧ Own encT 9 26 w' w.heap.size u ts.length (ts.map (movT v)) ∧ Below w.heap.size w w' := by
  go_enter Try.func30, Try.ntmps30
  go_wp2
  go_loopw [5, 6] (fun u i wr => ∃ k : Nat, k ≤ ts.length ∧ i = .int .i64 k ∧ Own encT 9 26 wr (w.heap.size + 1) u k ((ts.take k).map (movT v)) ∧ Blk wr w.heap.size 23 #[.int .i64 v.1, .int .i64 v.2.1, .int .i64 v.2.2] ∧ Below w.heap.size w wr) (fun _ i _ => ts.length - (intOf i).toNat)
  case atStart => exact ⟨0, Nat.zero_le _, rfl, Own.nil, Blk.new _ _ _, (Below.refl _ w).alloc (Nat.le_refl _) _⟩
  case round =>
    obtain ⟨k, hk, rfl, hown, hbv, hB⟩ := hrel
    obtain ⟨A1, c1, rfl⟩ := hown.form
    have hsz := hbv.lt
    by_cases hlt : k < ts.length
    · obtain ⟨t, ht⟩ : ∃ t, ts[k]? = some t := ⟨_, List.getElem?_eq_getElem hlt⟩
      obtain ⟨b, o, hA, hb, g0, g1, g2, g3, g4, g5, g6, g7, g8⟩ := (hs.below hB).tri ht
      subst hA
      have H := hide (And.intro hs (And.intro hown (And.intro hbv (And.intro hB ht))))
      clear hs hown hbv hB ht
      go_wp2
      clear g0 g1 g2 g3 g4 g5 g6 g7 g8
      obtain ⟨V, hV⟩ : ∃ V, V = wr := ⟨_, rfl⟩
      obtain ⟨X, hX⟩ : ∃ X, X = V.alloc (.cells #[.int .i64 t.1.1, .int .i64 t.1.2.1, .int .i64 t.1.2.2, .int .i64 t.2.1.1, .int .i64 t.2.1.2.1, .int .i64 t.2.1.2.2, .int .i64 t.2.2.1, .int .i64 t.2.2.2.1, .int .i64 t.2.2.2.2] 26) := ⟨_, rfl⟩
      rw [← hV] at H hsz ⊢
      rw [← hX]
      have hbX : Blk X V.heap.size 26 (nineT t) := by rw [hX]; exact Blk.new _ _ _
      have hBX : Below V.heap.size V X := by rw [hX]; exact (Below.refl _ V).alloc (Nat.le_refl _) _
      have hXv := H.out.2.2.1.below hBX H.out.2.2.1.lt
      have HX := hide (And.intro hX (And.intro hbX (And.intro hBX hXv)))
      clear hX hV hbX hBX hXv
      go_loopw [8] (fun i wr => ∃ j : Nat, j ≤ 3 ∧ i = .int .i64 j ∧ Blk wr V.heap.size 26 (nineT (movN v t j)) ∧ Below V.heap.size V wr) (fun i _ => 3 - (intOf i).toNat)
      case atStart => exact ⟨0, by omega, rfl, HX.out.2.1, HX.out.2.2.1⟩
      case round =>
        obtain ⟨j, hj, rfl, hbt, hBt⟩ := hrel
        have hbv := H.out.2.2.1.below hBt H.out.2.2.1.lt
        have v0 := hbv.cell 0
        have v1 := hbv.cell 1
        have v2 := hbv.cell 2
        simp only [List.getElem?_toArray, List.getElem?_cons_zero, List.getElem?_cons_succ] at v0 v1 v2
        have hne : V.heap.size ≠ w.heap.size := by omega
        have hne2 : w.heap.size ≠ V.heap.size := by omega
        have hc : j = 0 ∨ j = 1 ∨ j = 2 ∨ j = 3 := by omega
        rcases hc with rfl | rfl | rfl | rfl
        · have hw0 : IntKind.i64.wrap 0 = 0 := by decide
          have r0 : wr.cell? ⟨V.heap.size, 0, none⟩ = some (.int .i64 t.1.1) := hbt.cell 0
          have r1 : wr.cell? ⟨V.heap.size, 1, none⟩ = some (.int .i64 t.1.2.1) := hbt.cell 1
          have r2 : wr.cell? ⟨V.heap.size, 2, none⟩ = some (.int .i64 t.1.2.2) := hbt.cell 2
          have r3 : wr.cell? ⟨V.heap.size, 3, none⟩ = some (.int .i64 t.2.1.1) := hbt.cell 3
          have r4 : wr.cell? ⟨V.heap.size, 4, none⟩ = some (.int .i64 t.2.1.2.1) := hbt.cell 4
          have r5 : wr.cell? ⟨V.heap.size, 5, none⟩ = some (.int .i64 t.2.1.2.2) := hbt.cell 5
          have r6 : wr.cell? ⟨V.heap.size, 6, none⟩ = some (.int .i64 t.2.2.1) := hbt.cell 6
          have r7 : wr.cell? ⟨V.heap.size, 7, none⟩ = some (.int .i64 t.2.2.2.1) := hbt.cell 7
          have r8 : wr.cell? ⟨V.heap.size, 8, none⟩ = some (.int .i64 t.2.2.2.2) := hbt.cell 8
          have f0 := hbt.frozen 0
          have f1 := hbt.frozen 1
          have f2 := hbt.frozen 2
          have HT := hide (And.intro hbt hBt)
          clear hbt hBt hbv
          go_wp2_with fail
          have hS : wr.drew.cell? ⟨w.heap.size, 0, none⟩ = some (.int .i64 v.1) ∧ wr.drew.cell? ⟨w.heap.size, 1, none⟩ = some (.int .i64 v.2.1) ∧ wr.drew.cell? ⟨w.heap.size, 2, none⟩ = some (.int .i64 v.2.2) ∧ wr.drew.cell? ⟨V.heap.size, 0, none⟩ = some (.int .i64 t.1.1) ∧ wr.drew.cell? ⟨V.heap.size, 1, none⟩ = some (.int .i64 t.1.2.1) ∧ wr.drew.cell? ⟨V.heap.size, 2, none⟩ = some (.int .i64 t.1.2.2) := ⟨v0, v1, v2, r0, r1, r2⟩
          refine wp_region_mix (fun w' => w'.cell? ⟨w.heap.size, 0, none⟩ = some (.int .i64 v.1) ∧ w'.cell? ⟨w.heap.size, 1, none⟩ = some (.int .i64 v.2.1) ∧ w'.cell? ⟨w.heap.size, 2, none⟩ = some (.int .i64 v.2.2) ∧ w'.cell? ⟨V.heap.size, 0, none⟩ = some (.int .i64 t.1.1) ∧ w'.cell? ⟨V.heap.size, 1, none⟩ = some (.int .i64 t.1.2.1) ∧ w'.cell? ⟨V.heap.size, 2, none⟩ = some (.int .i64 t.1.2.2)) [0, 1, 2, 3, 4, 5, 6, 7, 8, 9, 10, 11, 12, 13, 14, 15, 16, 17, 18, 19, 20, 21, 22, 23] [0, 1, 2, 3, 4, 5, 6, 7, 8, 9, 10, 11, 12, 13, 14, 15, 16, 17, 18, 19, 20, 21, 22, 23, 24] mixed_ok (by kernel_rfl) ?_
          refine wpMix_q (v := .int .i64 0) rfl rfl (fun _ _ _ h => h) hS ⟨rfl, fun W' h' => by simp [go_sem]⟩ ?_
          refine wpMix_q (v := .int .i64 0) rfl rfl (fun _ _ _ h => h) hS ⟨rfl, fun W' h' => by simp [go_sem]⟩ ?_
          refine wpMix_q (v := .pointer (some ⟨V.heap.size, 0, none⟩)) rfl rfl (fun _ _ _ h => h) hS ⟨rfl, fun W' h' => by simp [go_sem]⟩ ?_
          refine wpMix_q (v := .pointer (some ⟨V.heap.size, 0, none⟩)) rfl rfl (fun _ _ _ h => h) hS ⟨rfl, fun W' h' => by simp [go_sem]⟩ ?_
          refine wpMix_q (v := .int .i64 t.1.1) rfl rfl (fun _ _ _ h => h) hS ⟨rfl, fun W' h' => by simp [go_sem, h'.2.2.2.1]⟩ ?_
          refine wpMix_q (v := .pointer (some ⟨w.heap.size, 0, none⟩)) rfl rfl (fun _ _ _ h => h) hS ⟨rfl, fun W' h' => by simp [go_sem]⟩ ?_
          refine wpMix_q (v := .int .i64 v.1) rfl rfl (fun _ _ _ h => h) hS ⟨rfl, fun W' h' => by simp [go_sem, h'.1]⟩ ?_
          refine wpMix_q (v := .int .i64 (IntKind.i64.wrap (t.1.1 + v.1))) rfl rfl (fun _ _ _ h => h) hS ⟨rfl, fun W' h' => by simp [go_sem]⟩ ?_
          refine wpMix_q (v := .int .i64 0) rfl rfl (fun _ _ _ h => h) hS ⟨rfl, fun W' h' => by simp [go_sem]⟩ ?_
          refine wpMix_q (v := .pointer (some ⟨V.heap.size, 0, none⟩)) rfl rfl (fun _ _ _ h => h) hS ⟨rfl, fun W' h' => by simp [go_sem]⟩ ?_
          refine wpMix_q (v := .pointer (some ⟨V.heap.size, 1, none⟩)) rfl rfl (fun _ _ _ h => h) hS ⟨rfl, fun W' h' => by simp [go_sem]⟩ ?_
          refine wpMix_q (v := .int .i64 t.1.2.1) rfl rfl (fun _ _ _ h => h) hS ⟨rfl, fun W' h' => by simp [go_sem, h'.2.2.2.2.1]⟩ ?_
          refine wpMix_q (v := .pointer (some ⟨w.heap.size, 1, none⟩)) rfl rfl (fun _ _ _ h => h) hS ⟨rfl, fun W' h' => by simp [go_sem]⟩ ?_
          refine wpMix_q (v := .int .i64 v.2.1) rfl rfl (fun _ _ _ h => h) hS ⟨rfl, fun W' h' => by simp [go_sem, h'.2.1]⟩ ?_
          refine wpMix_q (v := .int .i64 (IntKind.i64.wrap (t.1.2.1 + v.2.1))) rfl rfl (fun _ _ _ h => h) hS ⟨rfl, fun W' h' => by simp [go_sem]⟩ ?_
          refine wpMix_q (v := .int .i64 0) rfl rfl (fun _ _ _ h => h) hS ⟨rfl, fun W' h' => by simp [go_sem]⟩ ?_
          refine wpMix_q (v := .pointer (some ⟨V.heap.size, 0, none⟩)) rfl rfl (fun _ _ _ h => h) hS ⟨rfl, fun W' h' => by simp [go_sem]⟩ ?_
          refine wpMix_q (v := .pointer (some ⟨V.heap.size, 2, none⟩)) rfl rfl (fun _ _ _ h => h) hS ⟨rfl, fun W' h' => by simp [go_sem]⟩ ?_
          refine wpMix_q (v := .int .i64 t.1.2.2) rfl rfl (fun _ _ _ h => h) hS ⟨rfl, fun W' h' => by simp [go_sem, h'.2.2.2.2.2]⟩ ?_
          refine wpMix_q (v := .pointer (some ⟨w.heap.size, 2, none⟩)) rfl rfl (fun _ _ _ h => h) hS ⟨rfl, fun W' h' => by simp [go_sem]⟩ ?_
          refine wpMix_q (v := .int .i64 v.2.2) rfl rfl (fun _ _ _ h => h) hS ⟨rfl, fun W' h' => by simp [go_sem, h'.2.2.1]⟩ ?_
          refine wpMix_q (v := .int .i64 (IntKind.i64.wrap (t.1.2.2 + v.2.2))) rfl rfl (fun _ _ _ h => h) hS ⟨rfl, fun W' h' => by simp [go_sem]⟩ ?_
          refine wpMix_q (v := .agg #[.int .i64 (IntKind.i64.wrap (t.1.1 + v.1)), .int .i64 (IntKind.i64.wrap (t.1.2.1 + v.2.1)), .int .i64 (IntKind.i64.wrap (t.1.2.2 + v.2.2))]) rfl rfl (fun _ _ _ h => h) hS ⟨rfl, fun W' h' => by simp [go_sem]⟩ ?_
          refine wpMix_q (v := .pointer (some ⟨V.heap.size, 0, none⟩)) rfl rfl (fun _ _ _ h => h) hS ⟨rfl, fun W' h' => by simp [go_sem]⟩ ?_
          refine wpMix_tail _ [_] (by kernel_rfl) rfl ?_
          simp only [List.getElem_toArray, List.getElem_cons_succ, List.getElem_cons_zero]
          go_wp2
          go_roundw
          case rel =>
            have h0 := (((HT.out.1.set_ 0 (.int .i64 (wrap64 (t.1.1 + v.1)))).set_ 1 (.int .i64 (wrap64 (t.1.2.1 + v.2.1)))).set_ 2 (.int .i64 (wrap64 (t.1.2.2 + v.2.2)))).drew
            unfold nineT at h0
            simp only [movN, List.setIfInBounds_toArray, List.set_cons_succ, List.set_cons_zero] at h0
            exact ⟨1, by omega, rfl, h0, (((HT.out.2.setCell (by simp) _).setCell (by simp) _).setCell (by simp) _).drew⟩
          case measure => simp [intOf]
        · have hw0 : IntKind.i64.wrap 0 = 0 := by decide
          have r0 : wr.cell? ⟨V.heap.size, 0, none⟩ = some (.int .i64 (wrap64 (t.1.1 + v.1))) := hbt.cell 0
          have r1 : wr.cell? ⟨V.heap.size, 1, none⟩ = some (.int .i64 (wrap64 (t.1.2.1 + v.2.1))) := hbt.cell 1
          have r2 : wr.cell? ⟨V.heap.size, 2, none⟩ = some (.int .i64 (wrap64 (t.1.2.2 + v.2.2))) := hbt.cell 2
          have r3 : wr.cell? ⟨V.heap.size, 3, none⟩ = some (.int .i64 t.2.1.1) := hbt.cell 3
          have r4 : wr.cell? ⟨V.heap.size, 4, none⟩ = some (.int .i64 t.2.1.2.1) := hbt.cell 4
          have r5 : wr.cell? ⟨V.heap.size, 5, none⟩ = some (.int .i64 t.2.1.2.2) := hbt.cell 5
          have r6 : wr.cell? ⟨V.heap.size, 6, none⟩ = some (.int .i64 t.2.2.1) := hbt.cell 6
          have r7 : wr.cell? ⟨V.heap.size, 7, none⟩ = some (.int .i64 t.2.2.2.1) := hbt.cell 7
          have r8 : wr.cell? ⟨V.heap.size, 8, none⟩ = some (.int .i64 t.2.2.2.2) := hbt.cell 8
          have f3 := hbt.frozen 3
          have f4 := hbt.frozen 4
          have f5 := hbt.frozen 5
          have HT := hide (And.intro hbt hBt)
          clear hbt hBt hbv
          go_wp2_with fail
          have hS : wr.drew.cell? ⟨w.heap.size, 0, none⟩ = some (.int .i64 v.1) ∧ wr.drew.cell? ⟨w.heap.size, 1, none⟩ = some (.int .i64 v.2.1) ∧ wr.drew.cell? ⟨w.heap.size, 2, none⟩ = some (.int .i64 v.2.2) ∧ wr.drew.cell? ⟨V.heap.size, 3, none⟩ = some (.int .i64 t.2.1.1) ∧ wr.drew.cell? ⟨V.heap.size, 4, none⟩ = some (.int .i64 t.2.1.2.1) ∧ wr.drew.cell? ⟨V.heap.size, 5, none⟩ = some (.int .i64 t.2.1.2.2) := ⟨v0, v1, v2, r3, r4, r5⟩
          refine wp_region_mix (fun w' => w'.cell? ⟨w.heap.size, 0, none⟩ = some (.int .i64 v.1) ∧ w'.cell? ⟨w.heap.size, 1, none⟩ = some (.int .i64 v.2.1) ∧ w'.cell? ⟨w.heap.size, 2, none⟩ = some (.int .i64 v.2.2) ∧ w'.cell? ⟨V.heap.size, 3, none⟩ = some (.int .i64 t.2.1.1) ∧ w'.cell? ⟨V.heap.size, 4, none⟩ = some (.int .i64 t.2.1.2.1) ∧ w'.cell? ⟨V.heap.size, 5, none⟩ = some (.int .i64 t.2.1.2.2)) [0, 1, 2, 3, 4, 5, 6, 7, 8, 9, 10, 11, 12, 13, 14, 15, 16, 17, 18, 19, 20, 21, 22, 23] [0, 1, 2, 3, 4, 5, 6, 7, 8, 9, 10, 11, 12, 13, 14, 15, 16, 17, 18, 19, 20, 21, 22, 23, 24] mixed_ok (by kernel_rfl) ?_
          refine wpMix_q (v := .int .i64 1) rfl rfl (fun _ _ _ h => h) hS ⟨rfl, fun W' h' => by simp [go_sem]⟩ ?_
          refine wpMix_q (v := .int .i64 1) rfl rfl (fun _ _ _ h => h) hS ⟨rfl, fun W' h' => by simp [go_sem]⟩ ?_
          refine wpMix_q (v := .pointer (some ⟨V.heap.size, 3, none⟩)) rfl rfl (fun _ _ _ h => h) hS ⟨rfl, fun W' h' => by simp [go_sem]⟩ ?_
          refine wpMix_q (v := .pointer (some ⟨V.heap.size, 3, none⟩)) rfl rfl (fun _ _ _ h => h) hS ⟨rfl, fun W' h' => by simp [go_sem]⟩ ?_
          refine wpMix_q (v := .int .i64 t.2.1.1) rfl rfl (fun _ _ _ h => h) hS ⟨rfl, fun W' h' => by simp [go_sem, h'.2.2.2.1]⟩ ?_
          refine wpMix_q (v := .pointer (some ⟨w.heap.size, 0, none⟩)) rfl rfl (fun _ _ _ h => h) hS ⟨rfl, fun W' h' => by simp [go_sem]⟩ ?_
          refine wpMix_q (v := .int .i64 v.1) rfl rfl (fun _ _ _ h => h) hS ⟨rfl, fun W' h' => by simp [go_sem, h'.1]⟩ ?_
          refine wpMix_q (v := .int .i64 (IntKind.i64.wrap (t.2.1.1 + v.1))) rfl rfl (fun _ _ _ h => h) hS ⟨rfl, fun W' h' => by simp [go_sem]⟩ ?_
          refine wpMix_q (v := .int .i64 1) rfl rfl (fun _ _ _ h => h) hS ⟨rfl, fun W' h' => by simp [go_sem]⟩ ?_
          refine wpMix_q (v := .pointer (some ⟨V.heap.size, 3, none⟩)) rfl rfl (fun _ _ _ h => h) hS ⟨rfl, fun W' h' => by simp [go_sem]⟩ ?_
          refine wpMix_q (v := .pointer (some ⟨V.heap.size, 4, none⟩)) rfl rfl (fun _ _ _ h => h) hS ⟨rfl, fun W' h' => by simp [go_sem]⟩ ?_
          refine wpMix_q (v := .int .i64 t.2.1.2.1) rfl rfl (fun _ _ _ h => h) hS ⟨rfl, fun W' h' => by simp [go_sem, h'.2.2.2.2.1]⟩ ?_
          refine wpMix_q (v := .pointer (some ⟨w.heap.size, 1, none⟩)) rfl rfl (fun _ _ _ h => h) hS ⟨rfl, fun W' h' => by simp [go_sem]⟩ ?_
          refine wpMix_q (v := .int .i64 v.2.1) rfl rfl (fun _ _ _ h => h) hS ⟨rfl, fun W' h' => by simp [go_sem, h'.2.1]⟩ ?_
          refine wpMix_q (v := .int .i64 (IntKind.i64.wrap (t.2.1.2.1 + v.2.1))) rfl rfl (fun _ _ _ h => h) hS ⟨rfl, fun W' h' => by simp [go_sem]⟩ ?_
          refine wpMix_q (v := .int .i64 1) rfl rfl (fun _ _ _ h => h) hS ⟨rfl, fun W' h' => by simp [go_sem]⟩ ?_
          refine wpMix_q (v := .pointer (some ⟨V.heap.size, 3, none⟩)) rfl rfl (fun _ _ _ h => h) hS ⟨rfl, fun W' h' => by simp [go_sem]⟩ ?_
          refine wpMix_q (v := .pointer (some ⟨V.heap.size, 5, none⟩)) rfl rfl (fun _ _ _ h => h) hS ⟨rfl, fun W' h' => by simp [go_sem]⟩ ?_
          refine wpMix_q (v := .int .i64 t.2.1.2.2) rfl rfl (fun _ _ _ h => h) hS ⟨rfl, fun W' h' => by simp [go_sem, h'.2.2.2.2.2]⟩ ?_
          refine wpMix_q (v := .pointer (some ⟨w.heap.size, 2, none⟩)) rfl rfl (fun _ _ _ h => h) hS ⟨rfl, fun W' h' => by simp [go_sem]⟩ ?_
          refine wpMix_q (v := .int .i64 v.2.2) rfl rfl (fun _ _ _ h => h) hS ⟨rfl, fun W' h' => by simp [go_sem, h'.2.2.1]⟩ ?_
          refine wpMix_q (v := .int .i64 (IntKind.i64.wrap (t.2.1.2.2 + v.2.2))) rfl rfl (fun _ _ _ h => h) hS ⟨rfl, fun W' h' => by simp [go_sem]⟩ ?_
          refine wpMix_q (v := .agg #[.int .i64 (IntKind.i64.wrap (t.2.1.1 + v.1)), .int .i64 (IntKind.i64.wrap (t.2.1.2.1 + v.2.1)), .int .i64 (IntKind.i64.wrap (t.2.1.2.2 + v.2.2))]) rfl rfl (fun _ _ _ h => h) hS ⟨rfl, fun W' h' => by simp [go_sem]⟩ ?_
          refine wpMix_q (v := .pointer (some ⟨V.heap.size, 3, none⟩)) rfl rfl (fun _ _ _ h => h) hS ⟨rfl, fun W' h' => by simp [go_sem]⟩ ?_
          refine wpMix_tail _ [_] (by kernel_rfl) rfl ?_
          simp only [List.getElem_toArray, List.getElem_cons_succ, List.getElem_cons_zero]
          go_wp2
          go_roundw
          case rel =>
            have h0 := (((HT.out.1.set_ 3 (.int .i64 (wrap64 (t.2.1.1 + v.1)))).set_ 4 (.int .i64 (wrap64 (t.2.1.2.1 + v.2.1)))).set_ 5 (.int .i64 (wrap64 (t.2.1.2.2 + v.2.2)))).drew
            unfold nineT at h0
            simp only [movN, List.setIfInBounds_toArray, List.set_cons_succ, List.set_cons_zero] at h0
            exact ⟨2, by omega, rfl, h0, (((HT.out.2.setCell (by simp) _).setCell (by simp) _).setCell (by simp) _).drew⟩
          case measure => simp [intOf]
        · have hw0 : IntKind.i64.wrap 0 = 0 := by decide
          have r0 : wr.cell? ⟨V.heap.size, 0, none⟩ = some (.int .i64 (wrap64 (t.1.1 + v.1))) := hbt.cell 0
          have r1 : wr.cell? ⟨V.heap.size, 1, none⟩ = some (.int .i64 (wrap64 (t.1.2.1 + v.2.1))) := hbt.cell 1
          have r2 : wr.cell? ⟨V.heap.size, 2, none⟩ = some (.int .i64 (wrap64 (t.1.2.2 + v.2.2))) := hbt.cell 2
          have r3 : wr.cell? ⟨V.heap.size, 3, none⟩ = some (.int .i64 (wrap64 (t.2.1.1 + v.1))) := hbt.cell 3
          have r4 : wr.cell? ⟨V.heap.size, 4, none⟩ = some (.int .i64 (wrap64 (t.2.1.2.1 + v.2.1))) := hbt.cell 4
          have r5 : wr.cell? ⟨V.heap.size, 5, none⟩ = some (.int .i64 (wrap64 (t.2.1.2.2 + v.2.2))) := hbt.cell 5
          have r6 : wr.cell? ⟨V.heap.size, 6, none⟩ = some (.int .i64 t.2.2.1) := hbt.cell 6
          have r7 : wr.cell? ⟨V.heap.size, 7, none⟩ = some (.int .i64 t.2.2.2.1) := hbt.cell 7
          have r8 : wr.cell? ⟨V.heap.size, 8, none⟩ = some (.int .i64 t.2.2.2.2) := hbt.cell 8
          have f6 := hbt.frozen 6
          have f7 := hbt.frozen 7
          have f8 := hbt.frozen 8
          have HT := hide (And.intro hbt hBt)
          clear hbt hBt hbv
          go_wp2_with fail
          have hS : wr.drew.cell? ⟨w.heap.size, 0, none⟩ = some (.int .i64 v.1) ∧ wr.drew.cell? ⟨w.heap.size, 1, none⟩ = some (.int .i64 v.2.1) ∧ wr.drew.cell? ⟨w.heap.size, 2, none⟩ = some (.int .i64 v.2.2) ∧ wr.drew.cell? ⟨V.heap.size, 6, none⟩ = some (.int .i64 t.2.2.1) ∧ wr.drew.cell? ⟨V.heap.size, 7, none⟩ = some (.int .i64 t.2.2.2.1) ∧ wr.drew.cell? ⟨V.heap.size, 8, none⟩ = some (.int .i64 t.2.2.2.2) := ⟨v0, v1, v2, r6, r7, r8⟩
          refine wp_region_mix (fun w' => w'.cell? ⟨w.heap.size, 0, none⟩ = some (.int .i64 v.1) ∧ w'.cell? ⟨w.heap.size, 1, none⟩ = some (.int .i64 v.2.1) ∧ w'.cell? ⟨w.heap.size, 2, none⟩ = some (.int .i64 v.2.2) ∧ w'.cell? ⟨V.heap.size, 6, none⟩ = some (.int .i64 t.2.2.1) ∧ w'.cell? ⟨V.heap.size, 7, none⟩ = some (.int .i64 t.2.2.2.1) ∧ w'.cell? ⟨V.heap.size, 8, none⟩ = some (.int .i64 t.2.2.2.2)) [0, 1, 2, 3, 4, 5, 6, 7, 8, 9, 10, 11, 12, 13, 14, 15, 16, 17, 18, 19, 20, 21, 22, 23] [0, 1, 2, 3, 4, 5, 6, 7, 8, 9, 10, 11, 12, 13, 14, 15, 16, 17, 18, 19, 20, 21, 22, 23, 24] mixed_ok (by kernel_rfl) ?_
          refine wpMix_q (v := .int .i64 2) rfl rfl (fun _ _ _ h => h) hS ⟨rfl, fun W' h' => by simp [go_sem]⟩ ?_
          refine wpMix_q (v := .int .i64 2) rfl rfl (fun _ _ _ h => h) hS ⟨rfl, fun W' h' => by simp [go_sem]⟩ ?_
          refine wpMix_q (v := .pointer (some ⟨V.heap.size, 6, none⟩)) rfl rfl (fun _ _ _ h => h) hS ⟨rfl, fun W' h' => by simp [go_sem]⟩ ?_
          refine wpMix_q (v := .pointer (some ⟨V.heap.size, 6, none⟩)) rfl rfl (fun _ _ _ h => h) hS ⟨rfl, fun W' h' => by simp [go_sem]⟩ ?_
          refine wpMix_q (v := .int .i64 t.2.2.1) rfl rfl (fun _ _ _ h => h) hS ⟨rfl, fun W' h' => by simp [go_sem, h'.2.2.2.1]⟩ ?_
          refine wpMix_q (v := .pointer (some ⟨w.heap.size, 0, none⟩)) rfl rfl (fun _ _ _ h => h) hS ⟨rfl, fun W' h' => by simp [go_sem]⟩ ?_
          refine wpMix_q (v := .int .i64 v.1) rfl rfl (fun _ _ _ h => h) hS ⟨rfl, fun W' h' => by simp [go_sem, h'.1]⟩ ?_
          refine wpMix_q (v := .int .i64 (IntKind.i64.wrap (t.2.2.1 + v.1))) rfl rfl (fun _ _ _ h => h) hS ⟨rfl, fun W' h' => by simp [go_sem]⟩ ?_
          refine wpMix_q (v := .int .i64 2) rfl rfl (fun _ _ _ h => h) hS ⟨rfl, fun W' h' => by simp [go_sem]⟩ ?_
          refine wpMix_q (v := .pointer (some ⟨V.heap.size, 6, none⟩)) rfl rfl (fun _ _ _ h => h) hS ⟨rfl, fun W' h' => by simp [go_sem]⟩ ?_
          refine wpMix_q (v := .pointer (some ⟨V.heap.size, 7, none⟩)) rfl rfl (fun _ _ _ h => h) hS ⟨rfl, fun W' h' => by simp [go_sem]⟩ ?_
          refine wpMix_q (v := .int .i64 t.2.2.2.1) rfl rfl (fun _ _ _ h => h) hS ⟨rfl, fun W' h' => by simp [go_sem, h'.2.2.2.2.1]⟩ ?_
          refine wpMix_q (v := .pointer (some ⟨w.heap.size, 1, none⟩)) rfl rfl (fun _ _ _ h => h) hS ⟨rfl, fun W' h' => by simp [go_sem]⟩ ?_
          refine wpMix_q (v := .int .i64 v.2.1) rfl rfl (fun _ _ _ h => h) hS ⟨rfl, fun W' h' => by simp [go_sem, h'.2.1]⟩ ?_
          refine wpMix_q (v := .int .i64 (IntKind.i64.wrap (t.2.2.2.1 + v.2.1))) rfl rfl (fun _ _ _ h => h) hS ⟨rfl, fun W' h' => by simp [go_sem]⟩ ?_
          refine wpMix_q (v := .int .i64 2) rfl rfl (fun _ _ _ h => h) hS ⟨rfl, fun W' h' => by simp [go_sem]⟩ ?_
          refine wpMix_q (v := .pointer (some ⟨V.heap.size, 6, none⟩)) rfl rfl (fun _ _ _ h => h) hS ⟨rfl, fun W' h' => by simp [go_sem]⟩ ?_
          refine wpMix_q (v := .pointer (some ⟨V.heap.size, 8, none⟩)) rfl rfl (fun _ _ _ h => h) hS ⟨rfl, fun W' h' => by simp [go_sem]⟩ ?_
          refine wpMix_q (v := .int .i64 t.2.2.2.2) rfl rfl (fun _ _ _ h => h) hS ⟨rfl, fun W' h' => by simp [go_sem, h'.2.2.2.2.2]⟩ ?_
          refine wpMix_q (v := .pointer (some ⟨w.heap.size, 2, none⟩)) rfl rfl (fun _ _ _ h => h) hS ⟨rfl, fun W' h' => by simp [go_sem]⟩ ?_
          refine wpMix_q (v := .int .i64 v.2.2) rfl rfl (fun _ _ _ h => h) hS ⟨rfl, fun W' h' => by simp [go_sem, h'.2.2.1]⟩ ?_
          refine wpMix_q (v := .int .i64 (IntKind.i64.wrap (t.2.2.2.2 + v.2.2))) rfl rfl (fun _ _ _ h => h) hS ⟨rfl, fun W' h' => by simp [go_sem]⟩ ?_
          refine wpMix_q (v := .agg #[.int .i64 (IntKind.i64.wrap (t.2.2.1 + v.1)), .int .i64 (IntKind.i64.wrap (t.2.2.2.1 + v.2.1)), .int .i64 (IntKind.i64.wrap (t.2.2.2.2 + v.2.2))]) rfl rfl (fun _ _ _ h => h) hS ⟨rfl, fun W' h' => by simp [go_sem]⟩ ?_
          refine wpMix_q (v := .pointer (some ⟨V.heap.size, 6, none⟩)) rfl rfl (fun _ _ _ h => h) hS ⟨rfl, fun W' h' => by simp [go_sem]⟩ ?_
          refine wpMix_tail _ [_] (by kernel_rfl) rfl ?_
          simp only [List.getElem_toArray, List.getElem_cons_succ, List.getElem_cons_zero]
          go_wp2
          go_roundw
          case rel =>
            have h0 := (((HT.out.1.set_ 6 (.int .i64 (wrap64 (t.2.2.1 + v.1)))).set_ 7 (.int .i64 (wrap64 (t.2.2.2.1 + v.2.1)))).set_ 8 (.int .i64 (wrap64 (t.2.2.2.2 + v.2.2)))).drew
            unfold nineT at h0
            simp only [movN, List.setIfInBounds_toArray, List.set_cons_succ, List.set_cons_zero] at h0
            exact ⟨3, by omega, rfl, h0, (((HT.out.2.setCell (by simp) _).setCell (by simp) _).setCell (by simp) _).drew⟩
          case measure => simp [intOf]
        · have b9 := hbt
          rw [nineT_eq] at b9
          have HT := hide (And.intro b9 hBt)
          have q0 := hbt.cell 0
          have q1 := hbt.cell 1
          have q2 := hbt.cell 2
          have q3 := hbt.cell 3
          have q4 := hbt.cell 4
          have q5 := hbt.cell 5
          have q6 := hbt.cell 6
          have q7 := hbt.cell 7
          have q8 := hbt.cell 8
          unfold nineT at q0 q1 q2 q3 q4 q5 q6 q7 q8
          simp only [List.getElem?_toArray, List.getElem?_cons_zero, List.getElem?_cons_succ] at q0 q1 q2 q3 q4 q5 q6 q7 q8
          obtain ⟨Y, hY⟩ : ∃ Y, Y = wr.alloc (.cells (encT (movT v t)).toArray 26) := ⟨_, rfl⟩
          have hYo : Own encT 9 26 (wr.alloc (.cells (encT (movT v t)).toArray 26)) (w.heap.size + 1) (.slice A1 k c1) k ((ts.take k).map (movT v)) := (H.out.2.1.below hBt (Nat.le_refl _)).alloc _
          have hszw : V.heap.size ≤ wr.heap.size := hBt.size
          clear hbt hBt hbv v0 v1 v2 hY
          go_wp2_with (at_builtin; refine wpList_append1 rfl _ _ _ rfl Try.underlying27 infoT rfl (by omega) encT_len encT_one rfl hYo wr.heap.size 1 (movT v t) rfl (Blk.new _ _ _) (by unfold maxLen; omega) (by omega) (by simp; omega) ?_; intro g cap w5 hown5 hg5 hB5 hat5 hgb5 hlt5)
          go_roundw
          case rel =>
            refine ⟨k + 1, by omega, by go_num, ?_, ?_, ?_⟩
            · rw [map_take_snoc _ _ _ _ H.out.2.2.2.2]; exact hown5
            · exact (((H.out.2.2.1.below HT.out.2 hsz).alloc _).below hB5 (by omega))
            · exact ((H.out.2.2.2.1.trans (HT.out.2.mono (by omega))).alloc (by omega) _).trans (hB5.mono (by omega))
          case measure => simp [intOf]; omega
    · have hke : k = ts.length := by omega
      subst hke
      rw [List.take_length] at hown
      have H := hide (And.intro hown hB)
      clear hown hB hbv hs
      go_wp2
      go_ret
      exact ⟨_, rfl, H.out.1.base_le (by omega), H.out.2⟩
end Go.Proofs.Ytgndbpkgehjelaa
/- ref04.Equal. -/
namespace Go.Proofs.Ytgndbpkgehjelaa
open Go.RowKit
theorem take_succ_eq {α : Type} {xs ys : List α} {k : Nat} {x y : α} (hx : xs[k]? = some x) (hy : ys[k]? = some y) (h : xs.take k = ys.take k) : xs.take (k + 1) = ys.take (k + 1) ↔ x = y := by
  rw [List.take_add_one, List.take_add_one, hx, hy, h]
  simp
set_option maxHeartbeats 2000000 in
theorem equal_any (A B : Option Addr) (c d : Nat) (xs ys : List Tri) (w : World) (n1 n2 : Nat) (hx : Sl encT 9 w n1 A xs) (hy : Sl encT 9 w n2 B ys) (hlx : xs.length ≤ 4294967296) (_hly : ys.length ≤ 4294967296) (hfx : ∀ t ∈ xs, fitsT t) (hfy : ∀ t ∈ ys, fitsT t) :
    Calls Try.prog 20 #[.slice A xs.length c, .slice B ys.length d] w fun e w' => e = .returned (.bool (decide (xs = ys))) ∧ ∃ k, w' = w.drewN k := by
  go_enter Try.func20, Try.ntmps20
  by_cases hl : xs.length = ys.length
  · rw [← hl]
    go_wp2
    go_loopw [5] (fun i wr => ∃ k n : Nat, k ≤ xs.length ∧ i = .int .i64 k ∧ xs.take k = ys.take k ∧ wr = w.drewN n) (fun i _ => xs.length - (intOf i).toNat)
    case atStart => exact ⟨0, 0, Nat.zero_le _, rfl, rfl, rfl⟩
    case round =>
      obtain ⟨k, n, hk, rfl, htk, rfl⟩ := hrel
      by_cases hlt : k < xs.length
      · obtain ⟨u, hu⟩ : ∃ u, xs[k]? = some u := ⟨_, List.getElem?_eq_getElem hlt⟩
        obtain ⟨v, hv⟩ : ∃ v, ys[k]? = some v := ⟨_, List.getElem?_eq_getElem (by omega)⟩
        obtain ⟨bA, oA, rfl, _, g0, g1, g2, g3, g4, g5, g6, g7, g8⟩ := hx.tri hu
        obtain ⟨bB, oB, rfl, _, k0, k1, k2, k3, k4, k5, k6, k7, k8⟩ := hy.tri hv
        have hq := eqT u v (hfx u (List.mem_of_getElem? hu)) (hfy v (List.mem_of_getElem? hv))
        have H := hide (And.intro hx (And.intro hy (And.intro hu (And.intro hv (And.intro htk hl)))))
        have i1 : (k : Int) < (xs.length : Int) := by omega
        clear hx hy hu hv htk hl
        have htk1 := take_succ_eq H.out.2.2.1 H.out.2.2.2.1 H.out.2.2.2.2.1
        have HT := hide htk1
        clear htk1
        by_cases huv : u = v
        · have hd : decide (u = v) = true := by simp [huv]
          rw [hd] at hq
          have HU := hide huv
          clear huv hd
          go_wp2_with fail
          go_quiet (fail)
          go_wp2
          go_roundw
          case rel => exact ⟨k + 1, n + nq, by omega, by go_num, HT.out.2 HU.out, rfl⟩
          case measure => simp [intOf]; omega
        · have hd : decide (u = v) = false := by simp [huv]
          rw [hd] at hq
          have HU := hide huv
          clear huv hd
          go_wp2_with fail
          go_quiet (fail)
          go_wp2
          go_ret
          refine ⟨?_, n + nq, by simp [World.drewN, Nat.add_assoc]⟩
          have : ¬ xs = ys := fun e => HU.out (HT.out.1 (by rw [e]))
          simp [this]
      · have hke : k = xs.length := by omega
        have hxy : xs = ys := by
          rw [hke, List.take_length, hl, List.take_length] at htk
          exact htk
        have HX := hide hxy
        clear hxy htk hx hy
        go_wp2
        go_ret
        exact ⟨by simp [HX.out], n, rfl⟩
  · have hne : ¬ ((xs.length : Int) = (ys.length : Int)) := by omega
    have hne2 : ¬ xs = ys := fun e => hl (by rw [e])
    have HN := hide hne2
    clear hx hy hne2
    go_wp2
    go_ret
    exact ⟨by simp [HN.out], 0, rfl⟩
end Go.Proofs.Ytgndbpkgehjelaa
/- ref13.Same. -/
namespace Go.Proofs.Ytgndbpkgehjelaa
open Go.RowKit
set_option maxHeartbeats 2000000 in
theorem same_any (A B : Option Addr) (c d : Nat) (xs ys : List (List Tri)) (w : World) (n1 n2 : Nat) (hx : LstE encT 9 w n1 A xs) (hy : LstE encT 9 w n2 B ys) (hlx : xs.length ≤ 4294967296) (_hly : ys.length ≤ 4294967296)
    (hpx : ∀ p ∈ xs, p.length ≤ 4294967296) (hpy : ∀ p ∈ ys, p.length ≤ 4294967296) (hfx : ∀ p ∈ xs, ∀ t ∈ p, fitsT t) (hfy : ∀ p ∈ ys, ∀ t ∈ p, fitsT t) :
    Calls Try.prog 18 #[.slice A xs.length c, .slice B ys.length d] w fun e w' => e = .returned (.bool (decide (xs = ys))) ∧ ∃ k, w' = w.drewN k := by
  go_enter Try.func18, Try.ntmps18
  by_cases hl : xs.length = ys.length
  · rw [← hl]
    go_wp2
    go_loopw [5] (fun i wr => ∃ k n : Nat, k ≤ xs.length ∧ i = .int .i64 k ∧ xs.take k = ys.take k ∧ wr = w.drewN n) (fun i _ => xs.length - (intOf i).toNat)
    case atStart => exact ⟨0, 0, Nat.zero_le _, rfl, rfl, rfl⟩
    case round =>
      obtain ⟨k, n, hk, rfl, htk, hwr⟩ := hrel
      by_cases hlt : k < xs.length
      · obtain ⟨u, hu⟩ : ∃ u, xs[k]? = some u := ⟨_, List.getElem?_eq_getElem hlt⟩
        obtain ⟨v, hv⟩ : ∃ v, ys[k]? = some v := ⟨_, List.getElem?_eq_getElem (by omega)⟩
        have hxr : LstE encT 9 wr n1 A xs := by rw [hwr]; exact hx.drewN n
        have hyr : LstE encT 9 wr n2 B ys := by rw [hwr]; exact hy.drewN n
        obtain ⟨bA, oA, A', c', rfl, _, g0, hsA⟩ := hxr.at hu
        obtain ⟨bB, oB, B', d', rfl, _, k0, hsB⟩ := hyr.at hv
        have hul := hpx u (List.mem_of_getElem? hu)
        have hvl := hpy v (List.mem_of_getElem? hv)
        have huf := hfx u (List.mem_of_getElem? hu)
        have hvf := hfy v (List.mem_of_getElem? hv)
        have htk1 := take_succ_eq hu hv htk
        have hE : ∀ j, Calls Try.prog 20 #[.slice A' u.length c', .slice B' v.length d'] (wr.drewN j) fun e w' => e = .returned (.bool (decide (u = v))) ∧ ∃ k, w' = (wr.drewN j).drewN k := fun j => equal_any A' B' c' d' u v _ n1 n2 (hsA.drewN j) (hsB.drewN j) hul hvl huf hvf
        have H := hide (And.intro hx (And.intro hy (And.intro htk1 hwr)))
        have HE := hide hE
        have i1 : (k : Int) < (xs.length : Int) := by omega
        clear hx hy hu hv htk hl hxr hyr hsA hsB htk1 hwr hE huf hvf
        by_cases huv : u = v
        · have hd : decide (u = v) = true := by simp [huv]
          rw [hd] at HE
          have HU := hide huv
          clear huv hd
          go_wp2_with fail
          go_quiet ((go_at_call 20; exact Calls.quiet_of (unhide HE _)))
          go_wp2
          go_roundw
          case rel => exact ⟨k + 1, n + nq, by omega, by go_num, H.out.2.2.1.2 HU.out, by rw [H.out.2.2.2]; simp [World.drewN, Nat.add_assoc]⟩
          case measure => simp [intOf]; omega
        · have hd : decide (u = v) = false := by simp [huv]
          rw [hd] at HE
          have HU := hide huv
          clear huv hd
          go_wp2_with fail
          go_quiet ((go_at_call 20; exact Calls.quiet_of (unhide HE _)))
          go_wp2
          go_ret
          refine ⟨?_, n + nq, by rw [H.out.2.2.2]; simp [World.drewN, Nat.add_assoc]⟩
          have : ¬ xs = ys := fun e => HU.out (H.out.2.2.1.1 (by rw [e]))
          simp [this]
      · have hke : k = xs.length := by omega
        have hxy : xs = ys := by
          rw [hke, List.take_length, hl, List.take_length] at htk
          exact htk
        have HX := hide hxy
        have HW := hide hwr
        clear hxy htk hx hy hwr
        go_wp2
        go_ret
        exact ⟨by simp [HX.out], n, HW.out⟩
  · have hne : ¬ ((xs.length : Int) = (ys.length : Int)) := by omega
    have hne2 : ¬ xs = ys := fun e => hl (by rw [e])
    have HN := hide hne2
    clear hx hy hne2
    go_wp2
    go_ret
    exact ⟨by simp [HN.out], 0, rfl⟩
end Go.Proofs.Ytgndbpkgehjelaa
/- ref13.SameInts. -/
namespace Go.Proofs.Ytgndbpkgehjelaa
open Go.RowKit
set_option maxHeartbeats 4000000 in
theorem sameI_any (A B : Option Addr) (c d : Nat) (xs ys : List (List Nat)) (w : World) (n1 n2 : Nat) (hx : LstE encI 1 w n1 A xs) (hy : LstE encI 1 w n2 B ys) (hlx : xs.length ≤ 4294967296) (_hly : ys.length ≤ 4294967296)
    (hpx : ∀ p ∈ xs, p.length ≤ 4294967296) (hpy : ∀ p ∈ ys, p.length ≤ 4294967296) :
    Calls Try.prog 26 #[.slice A xs.length c, .slice B ys.length d] w fun e w' => e = .returned (.bool (decide (xs = ys))) ∧ ∃ k, w' = w.drewN k := by
  go_enter Try.func26, Try.ntmps26
  by_cases hl : xs.length = ys.length
  · rw [← hl]
    go_wp2
    go_loopw [5] (fun i wr => ∃ k n : Nat, k ≤ xs.length ∧ i = .int .i64 k ∧ xs.take k = ys.take k ∧ wr = w.drewN n) (fun i _ => xs.length - (intOf i).toNat)
    case atStart => exact ⟨0, 0, Nat.zero_le _, rfl, rfl, rfl⟩
    case round =>
      obtain ⟨k, n, hk, rfl, htk, hwr⟩ := hrel
      obtain ⟨V, hV⟩ : ∃ V, V = wr := ⟨_, rfl⟩
      rw [← hV] at hwr ⊢
      clear hV
      by_cases hlt : k < xs.length
      · obtain ⟨u, hu⟩ : ∃ u, xs[k]? = some u := ⟨_, List.getElem?_eq_getElem hlt⟩
        obtain ⟨v, hv⟩ : ∃ v, ys[k]? = some v := ⟨_, List.getElem?_eq_getElem (by omega)⟩
        have hxr : LstE encI 1 V n1 A xs := by rw [hwr]; exact hx.drewN n
        have hyr : LstE encI 1 V n2 B ys := by rw [hwr]; exact hy.drewN n
        obtain ⟨bA, oA, A', c', rfl, _, g0, hsA⟩ := hxr.at hu
        obtain ⟨bB, oB, B', d', rfl, _, k0, hsB⟩ := hyr.at hv
        have hul := hpx u (List.mem_of_getElem? hu)
        have hvl := hpy v (List.mem_of_getElem? hv)
        have htk1 := take_succ_eq hu hv htk
        have H := hide (And.intro hx (And.intro hy (And.intro htk1 (And.intro hwr (And.intro hsA hsB)))))
        have i1 : (k : Int) < (xs.length : Int) := by omega
        clear hx hy hu hv htk hl hxr hyr hsA hsB htk1 hwr
        by_cases hle : u.length = v.length
        · rw [← hle] at k0 hvl
          have HLE := hide hle
          clear hle
          go_wp2_with fail
          go_quiet (fail)
          go_wp2
          obtain ⟨X, hX⟩ : ∃ X, X = V.drewN nq := ⟨_, rfl⟩
          have g0X : X.cell? ⟨bA, oA + k, none⟩ = some (.slice A' u.length c') := by rw [hX]; exact g0
          have k0X : X.cell? ⟨bB, oB + k, none⟩ = some (.slice B' u.length d') := by rw [hX]; exact k0
          have hsAX : Sl encI 1 X n1 A' u := by rw [hX]; exact H.out.2.2.2.2.1.drewN nq
          have hsBX : Sl encI 1 X n2 B' v := by rw [hX]; exact H.out.2.2.2.2.2.drewN nq
          rw [← hX]
          have HX := hide (And.intro hX (And.intro hsAX hsBX))
          clear hX hsAX hsBX g0 k0
          go_loopw [6] (fun i wr => ∃ j n' : Nat, j ≤ u.length ∧ i = .int .i64 j ∧ u.take j = v.take j ∧ wr = X.drewN n') (fun i _ => u.length - (intOf i).toNat)
          case atStart => exact ⟨0, 0, Nat.zero_le _, rfl, rfl, rfl⟩
          case round =>
            obtain ⟨j, n', hj, rfl, htj, hwj⟩ := hrel
            have g0Y : wr.cell? ⟨bA, oA + k, none⟩ = some (.slice A' u.length c') := by rw [hwj]; exact g0X
            have k0Y : wr.cell? ⟨bB, oB + k, none⟩ = some (.slice B' u.length d') := by rw [hwj]; exact k0X
            by_cases hjl : j < u.length
            · obtain ⟨x, hxx⟩ : ∃ x, u[j]? = some x := ⟨_, List.getElem?_eq_getElem hjl⟩
              obtain ⟨y, hyy⟩ : ∃ y, v[j]? = some y := ⟨_, List.getElem?_eq_getElem (by have := HLE.out; omega)⟩
              obtain ⟨ba, oa, rfl, _, hca⟩ := HX.out.2.1.at hxx
              obtain ⟨bb, ob, rfl, _, hcb⟩ := HX.out.2.2.at hyy
              have q0 : wr.cell? ⟨ba, oa + j, none⟩ = some (.int .i64 x) := by rw [hwj]; have := hca 0 _ rfl; simpa using this
              have q1 : wr.cell? ⟨bb, ob + j, none⟩ = some (.int .i64 y) := by rw [hwj]; have := hcb 0 _ rfl; simpa using this
              have htj1 := take_succ_eq hxx hyy htj
              have i2 : (j : Int) < (u.length : Int) := by omega
              have HJ := hide (And.intro htj1 hwj)
              clear htj1 hwj hca hcb hxx hyy htj g0X k0X
              by_cases hxy : x = y
              · subst hxy
                go_wp2_with fail
                go_quiet (fail)
                go_wp2
                go_roundw
                case rel => exact ⟨j + 1, n' + nq, by omega, by go_num, HJ.out.1.2 (by trivial), by rw [HJ.out.2]; simp [World.drewN, Nat.add_assoc]⟩
                case measure => simp [intOf]; omega
              · have hxyi : ¬ (x : Int) = (y : Int) := by omega
                have HXY := hide hxy
                clear hxy
                go_wp2_with fail
                go_quiet (fail)
                go_wp2
                go_ret
                refine ⟨?_, _, by rw [HJ.out.2, HX.out.1, H.out.2.2.2.1]; simp [World.drewN, Nat.add_assoc]; rfl⟩
                have : ¬ xs = ys := fun e => HXY.out (HJ.out.1.1 (by rw [H.out.2.2.1.1 (by rw [e])]))
                simp [this]
            · have hje : j = u.length := by omega
              have huv : u = v := by
                rw [hje, List.take_length, HLE.out, List.take_length] at htj
                exact htj
              have HU := hide huv
              have HJ := hide hwj
              clear huv htj hwj hje
              go_wp2
              go_roundw
              case rel => exact ⟨k + 1, n + nq + n', by omega, by go_num, H.out.2.2.1.2 HU.out, by rw [HJ.out, HX.out.1, H.out.2.2.2.1]; simp [World.drewN, Nat.add_assoc]⟩
              case measure => simp [intOf]; omega
        · have hlei : ¬ (u.length : Int) = (v.length : Int) := by omega
          have HLE := hide hle
          clear hle
          go_wp2_with fail
          go_quiet (fail)
          go_wp2
          go_ret
          refine ⟨?_, n + nq, by rw [H.out.2.2.2.1]; simp [World.drewN, Nat.add_assoc]⟩
          have : ¬ xs = ys := fun e => HLE.out (by rw [H.out.2.2.1.1 (by rw [e])])
          simp [this]
      · have hke : k = xs.length := by omega
        have hxy : xs = ys := by
          rw [hke, List.take_length, hl, List.take_length] at htk
          exact htk
        have HX := hide hxy
        have HW := hide hwr
        clear hxy htk hx hy hwr
        go_wp2
        go_ret
        exact ⟨by simp [HX.out], n, HW.out⟩
  · have hne : ¬ ((xs.length : Int) = (ys.length : Int)) := by omega
    have hne2 : ¬ xs = ys := fun e => hl (by rw [e])
    have HN := hide hne2
    clear hx hy hne2
    go_wp2
    go_ret
    exact ⟨by simp [HN.out], 0, rfl⟩
end Go.Proofs.Ytgndbpkgehjelaa
/- ref04.Same: equality of canonical forms. -/
namespace Go.Proofs.Ytgndbpkgehjelaa
open Go.RowKit Go.Sort
set_option maxRecDepth 100000 in
set_option maxHeartbeats 2000000 in
theorem same04_any (A B : Option Addr) (c d : Nat) (xs ys : List Tri) (w : World) (hx : Sl encT 9 w w.heap.size A xs) (hy : Sl encT 9 w w.heap.size B ys) (hlx : xs.length ≤ 2147483648) (hly : ys.length ≤ 2147483648) (hfx : ∀ t ∈ xs, fitsT t) (hfy : ∀ t ∈ ys, fitsT t) :
    Calls Try.prog 29 #[.slice A xs.length c, .slice B ys.length d] w fun e w' => e = .returned (.bool (decide (canonO xs = canonO ys))) ∧ Below w.heap.size w w' := by
  have H := hide (And.intro hx (And.intro hy (And.intro hfx hfy)))
  clear hx hy hfx hfy
  go_enter Try.func29, Try.ntmps29
  go_wp2_with fail
  refine (canon04_any A c xs _ H.out.1 hlx H.out.2.2.1).mono ?_
  rintro e w1 ⟨A1, c1, rfl, hB1, hs1, hc1⟩
  have H1 := hide (And.intro hB1 (And.intro hs1 hc1))
  clear hB1 hs1 hc1
  go_wp2_with fail
  refine (canon04_any B d ys _ ((H.out.2.1.below H1.out.1).more H1.out.1.size) hly H.out.2.2.2).mono ?_
  rintro e w2 ⟨A2, c2, rfl, hB2, hs2, hc2⟩
  have heq := equal_any A1 A2 c1 c2 (canonO xs) (canonO ys) w2 w1.heap.size w2.heap.size (H1.out.2.1.below hB2) hs2 (by rw [canonO_length]; omega) (by rw [canonO_length]; omega) (fitsT_canon H.out.2.2.1) (fitsT_canon H.out.2.2.2)
  rw [canonO_length, canonO_length] at heq
  have H2 := hide (And.intro hB2 heq)
  clear hB2 hs2 hc2 heq
  go_wp2_with fail
  refine H2.out.2.mono ?_
  rintro e w3 ⟨rfl, n, rfl⟩
  go_wp2
  go_ret
  exact ⟨rfl, below_drewN (H1.out.1.trans (H2.out.1.mono H1.out.1.size)) n⟩
end Go.Proofs.Ytgndbpkgehjelaa
