/- ref04.Volume6, of any ints (printed by mk_WdV.py). -/
import Derived.Test.YtelfnmohpjkilaaGreatDoorCWdI
namespace Go.Proofs.YtelfnmohpjkilaaGreatDoor
open Go.RowKit Go.Sort
theorem detT_absI {t : Tri} (h : fitsT t) : (detT t).natAbs ≤ 4707826301540010572876842067405749812076766583348025884672 := by
  obtain ⟨⟨a1, a2, a3⟩, ⟨b1, b2, b3⟩, c1, c2, c3⟩ := h
  unfold detT detP
  exact Nat.le_trans (add_absI (add_absI (mulZ_abs a1 (minZ_abs b2 c3 b3 c2)) (mulZ_abs a2 (minZ_abs b3 c1 b1 c3))) (mulZ_abs a3 (minZ_abs b1 c2 b2 c1))) (by decide)
theorem volP_absI {C : List Tri} (h : ∀ t ∈ C, fitsT t) : ∀ k, k ≤ C.length → (volP (C.take k)).natAbs ≤ k * 4707826301540010572876842067405749812076766583348025884672
  | 0, _ => by simp [volP]
  | k + 1, hk => by
    have ih := volP_absI h k (by omega)
    have ht : C[k]? = some C[k] := List.getElem?_eq_getElem hk
    rw [volP_take ht]
    have h1 := detT_absI (h _ (List.getElem_mem hk))
    omega
theorem detVI_any (t : Tri) (ht : fitsT t) (w : World) :
    Calls Tryz.prog 62 #[.agg #[.int .i64 t.1.1, .int .i64 t.1.2.1, .int .i64 t.1.2.2], .agg #[.int .i64 t.2.1.1, .int .i64 t.2.1.2.1, .int .i64 t.2.1.2.2], .agg #[.int .i64 t.2.2.1, .int .i64 t.2.2.2.1, .int .i64 t.2.2.2.2]] w fun e w' => ∃ b s, e = .returned (.agg #[.bool b, .string s]) ∧ WideI (.agg #[.bool b, .string s]) (detT t) ∧ Below w.heap.size w w' :=
  detI_any t.1 t.2.1 t.2.2 ht.1 ht.2.1 ht.2.2 w
/-- A wide number is returned. -/
def RetI (w : World) (x : Int) (e : Ending) (w' : World) : Prop := ∃ b s, e = .returned (.agg #[.bool b, .string s]) ∧ WideI (.agg #[.bool b, .string s]) x ∧ Below w.heap.size w w'
set_option maxRecDepth 100000 in
set_option maxHeartbeats 16000000 in
theorem volumeI_any (A : Option Addr) (c : Nat) (C : List Tri) (w : World) (hs : Sl encT 9 w w.heap.size A C) (hl : C.length ≤ 1000000) (hC : ∀ t ∈ C, fitsT t) :
    Calls Tryz.prog 27 #[.slice A C.length c] w (RetI w (volP C)) := by
  have hab := volP_absI hC
  obtain ⟨M, hM⟩ : ∃ M, M = C.length := ⟨_, rfl⟩
  rw [← hM] at hl hab ⊢
  have HC := hide (And.intro hs (And.intro hC (And.intro hM hab)))
  clear hs hC hM hab
  go_enter Tryz.func27, Tryz.ntmps27
  go_upto_region 1 with fail
  obtain ⟨X, hX⟩ : ∃ X, X = w.alloc (.cells #[.bool false, .string ⟨#[]⟩] 46) := ⟨_, rfl⟩
  rw [← hX]
  have hb : Blk X w.heap.size 46 #[.bool false, .string ⟨#[]⟩] := by rw [hX]; exact Blk.new _ _ _
  have hBX : Below w.heap.size w X := by rw [hX]; exact (Below.refl _ w).alloc (Nat.le_refl _) _
  obtain ⟨bx, hbx⟩ : ∃ b, b = w.heap.size := ⟨_, rfl⟩
  rw [← hbx] at hb ⊢
  have HX := hide (And.intro hb (And.intro hBX hbx))
  clear hb hBX hbx hX
  go_wp2_with fail
  with_reducible refine (fromF_any 0 (by unfold fits; omega) X).mono ?_
  rintro e w1 ⟨b1, s1, rfl, hW1, hB1⟩
  have H1 := hide (And.intro hW1 hB1)
  clear hW1 hB1
  go_upto_region 2 with fail
  obtain ⟨Y, hY⟩ : ∃ Y, Y = w1.alloc (.cells #[.bool b1, .string s1] 46) := ⟨_, rfl⟩
  rw [← hY]
  have hy : Blk Y w1.heap.size 46 #[.bool b1, .string s1] := by rw [hY]; exact Blk.new _ _ _
  have hBY : Below X.heap.size X Y := by rw [hY]; exact H1.out.2.alloc H1.out.2.size _
  obtain ⟨G, hG⟩ : ∃ b, b = w1.heap.size := ⟨_, rfl⟩
  have hGX : X.heap.size ≤ G := by rw [hG]; exact H1.out.2.size
  rw [← hG] at hy ⊢
  have HY := hide (And.intro hy (And.intro hBY hGX))
  clear hy hBY hG hGX hY
  go_wp2
  go_loopw [4] (fun iv wr => ∃ (k : Nat) (b : Bool) (s : ByteArray), k ≤ M ∧ iv = .int .i64 k ∧ Blk wr G 46 #[.bool b, .string s] ∧ WideI (.agg #[.bool b, .string s]) (volP (C.take k)) ∧ Below X.heap.size X wr) (fun iv _ => M - (intOf iv).toNat)
  case atStart => exact ⟨0, b1, s1, by omega, rfl, HY.out.1, H1.out.1, HY.out.2.1⟩
  case round =>
    obtain ⟨k, b, s, hk, rfl, hbl, hW, hB⟩ := hrel
    obtain ⟨V, rfl⟩ : ∃ V, V = wr := ⟨_, rfl⟩
    by_cases hkM : k < M
    · have i1 : (k : Int) < (M : Int) := by omega
      obtain ⟨t, ht⟩ : ∃ t, C[k]? = some t := ⟨_, List.getElem?_eq_getElem (by rw [← HC.out.2.2.1]; exact hkM)⟩
      have hBw := HX.out.2.1.trans (hB.mono HX.out.2.1.size)
      obtain ⟨tb, oo, hA, _, hcl⟩ := (HC.out.1.below hBw).tri ht
      subst hA
      have htm := HC.out.2.1 t (List.mem_of_getElem? ht)
      have hdv := fun W => detVI_any t htm W
      have hvt := volP_take ht
      have hda := detT_absI htm
      have hva := HC.out.2.2.2 k hk
      obtain ⟨dt, hdt⟩ : ∃ d, d = detT t := ⟨_, rfl⟩
      rw [← hdt] at hdv hvt hda
      obtain ⟨⟨p1, p2, p3⟩, ⟨q1, q2, q3⟩, r1, r2, r3⟩ := t
      have hlt0 := hBw.size
      have htb : tb < V.heap.size := by omega
      have hS : ∀ W, Below V.heap.size V W → (W.cell? ⟨G, 0, none⟩ = some (.bool b) ∧ W.cell? ⟨G, 1, none⟩ = some (.string s)) ∧ W.cell? ⟨tb, oo + k * 9, none⟩ = some (.int .i64 p1) ∧ W.cell? ⟨tb, oo + k * 9 + 1, none⟩ = some (.int .i64 p2) ∧ W.cell? ⟨tb, oo + k * 9 + 2, none⟩ = some (.int .i64 p3) ∧ W.cell? ⟨tb, oo + k * 9 + 3, none⟩ = some (.int .i64 q1) ∧ W.cell? ⟨tb, oo + k * 9 + 4, none⟩ = some (.int .i64 q2) ∧ W.cell? ⟨tb, oo + k * 9 + 5, none⟩ = some (.int .i64 q3) ∧ W.cell? ⟨tb, oo + k * 9 + 6, none⟩ = some (.int .i64 r1) ∧ W.cell? ⟨tb, oo + k * 9 + 7, none⟩ = some (.int .i64 r2) ∧ W.cell? ⟨tb, oo + k * 9 + 8, none⟩ = some (.int .i64 r3) := fun W hW => by
        have g := hbl.below hW hbl.lt
        have q := fun o => hW.cell (p := ⟨tb, o, none⟩) htb
        obtain ⟨h0, h1, h2, h3, h4, h5, h6, h7, h8⟩ := hcl
        exact ⟨⟨g.cell 0, g.cell 1⟩, (q _).trans h0, (q _).trans h1, (q _).trans h2, (q _).trans h3, (q _).trans h4, (q _).trans h5, (q _).trans h6, (q _).trans h7, (q _).trans h8⟩
      have HS := hide hS
      have HQ := hide (hS V.drew (Below.refl _ V).drew)
      obtain ⟨vk, hvk⟩ : ∃ v, v = volP (C.take k) := ⟨_, rfl⟩
      rw [← hvk] at hW hvt hva
      have hva2 : vk.natAbs ≤ 1000000 * 4707826301540010572876842067405749812076766583348025884672 := Nat.le_trans hva (Nat.mul_le_mul_right _ (by omega))
      have HD := hide (And.intro hdv (And.intro hvt (And.intro hda (And.intro hva2 (And.intro hW (And.intro hbl hB))))))
      clear hdv hvt hda hva hva2 hW hbl hB hBw hS hdt htm hcl hlt0 htb ht hvk
      go_upto_region 5 with fail
      refine wp_region_mix (fun W => (W.cell? ⟨G, 0, none⟩ = some (.bool b) ∧ W.cell? ⟨G, 1, none⟩ = some (.string s)) ∧ W.cell? ⟨tb, oo + k * 9, none⟩ = some (.int .i64 p1) ∧ W.cell? ⟨tb, oo + k * 9 + 1, none⟩ = some (.int .i64 p2) ∧ W.cell? ⟨tb, oo + k * 9 + 2, none⟩ = some (.int .i64 p3) ∧ W.cell? ⟨tb, oo + k * 9 + 3, none⟩ = some (.int .i64 q1) ∧ W.cell? ⟨tb, oo + k * 9 + 4, none⟩ = some (.int .i64 q2) ∧ W.cell? ⟨tb, oo + k * 9 + 5, none⟩ = some (.int .i64 q3) ∧ W.cell? ⟨tb, oo + k * 9 + 6, none⟩ = some (.int .i64 r1) ∧ W.cell? ⟨tb, oo + k * 9 + 7, none⟩ = some (.int .i64 r2) ∧ W.cell? ⟨tb, oo + k * 9 + 8, none⟩ = some (.int .i64 r3)) [0, 1, 2, 3, 4, 5, 6, 7, 8, 9, 10, 11, 12, 13, 14, 15] [0, 1, 2, 3, 4, 5, 6, 7, 8, 9, 10, 11, 12, 13, 14, 15, 16, 17, 18] mixed_ok (by kernel_rfl) ?_
      refine wpMix_q (v := .agg #[.bool b, .string s]) rfl rfl (fun _ _ _ h => h) HQ.out ⟨rfl, fun _ h' => by simp [go_sem, h'.1.1, h'.1.2]⟩ ?_
      refine wpMix_q (v := .slice (some ⟨tb, oo, none⟩) M c) rfl rfl (fun _ _ _ h => h) HQ.out ⟨rfl, fun _ h' => by simp [go_sem]⟩ ?_
      refine wpMix_q (v := .int .i64 k) rfl rfl (fun _ _ _ h => h) HQ.out ⟨rfl, fun _ h' => by simp [go_sem]⟩ ?_
      refine wpMix_q (v := .pointer (some ⟨tb, oo + k * 9, none⟩)) rfl rfl (fun _ _ _ h => h) HQ.out ⟨rfl, fun _ h' => by simp [go_sem, i1]⟩ ?_
      refine wpMix_q (v := .pointer (some ⟨tb, oo + k * 9, none⟩)) rfl rfl (fun _ _ _ h => h) HQ.out ⟨rfl, fun _ h' => by simp [go_sem]⟩ ?_
      refine wpMix_q (v := .agg #[.int .i64 p1, .int .i64 p2, .int .i64 p3]) rfl rfl (fun _ _ _ h => h) HQ.out ⟨rfl, fun _ h' => by simp [go_sem, h'.2.1, h'.2.2.1, h'.2.2.2.1]⟩ ?_
      simp only [List.getElem_toArray, List.getElem_cons_succ, List.getElem_cons_zero, Act.put, List.setIfInBounds_toArray, List.set_cons_succ, List.set_cons_zero]
      refine wpMix_q (v := .slice (some ⟨tb, oo, none⟩) M c) rfl rfl (fun _ _ _ h => h) HQ.out ⟨rfl, fun _ h' => by simp [go_sem]⟩ ?_
      refine wpMix_q (v := .int .i64 k) rfl rfl (fun _ _ _ h => h) HQ.out ⟨rfl, fun _ h' => by simp [go_sem]⟩ ?_
      refine wpMix_q (v := .pointer (some ⟨tb, oo + k * 9, none⟩)) rfl rfl (fun _ _ _ h => h) HQ.out ⟨rfl, fun _ h' => by simp [go_sem, i1]⟩ ?_
      refine wpMix_q (v := .pointer (some ⟨tb, oo + k * 9 + 3, none⟩)) rfl rfl (fun _ _ _ h => h) HQ.out ⟨rfl, fun _ h' => by simp [go_sem]⟩ ?_
      refine wpMix_q (v := .agg #[.int .i64 q1, .int .i64 q2, .int .i64 q3]) rfl rfl (fun _ _ _ h => h) HQ.out ⟨rfl, fun _ h' => by simp [go_sem, h'.2.2.2.2.1, h'.2.2.2.2.2.1, h'.2.2.2.2.2.2.1]⟩ ?_
      refine wpMix_q (v := .slice (some ⟨tb, oo, none⟩) M c) rfl rfl (fun _ _ _ h => h) HQ.out ⟨rfl, fun _ h' => by simp [go_sem]⟩ ?_
      simp only [List.getElem_toArray, List.getElem_cons_succ, List.getElem_cons_zero, Act.put, List.setIfInBounds_toArray, List.set_cons_succ, List.set_cons_zero]
      refine wpMix_q (v := .int .i64 k) rfl rfl (fun _ _ _ h => h) HQ.out ⟨rfl, fun _ h' => by simp [go_sem]⟩ ?_
      refine wpMix_q (v := .pointer (some ⟨tb, oo + k * 9, none⟩)) rfl rfl (fun _ _ _ h => h) HQ.out ⟨rfl, fun _ h' => by simp [go_sem, i1]⟩ ?_
      refine wpMix_q (v := .pointer (some ⟨tb, oo + k * 9 + 6, none⟩)) rfl rfl (fun _ _ _ h => h) HQ.out ⟨rfl, fun _ h' => by simp [go_sem]⟩ ?_
      refine wpMix_q (v := .agg #[.int .i64 r1, .int .i64 r2, .int .i64 r3]) rfl rfl (fun _ _ _ h => h) HQ.out ⟨rfl, fun _ h' => by simp [go_sem, h'.2.2.2.2.2.2.2.1, h'.2.2.2.2.2.2.2.2.1, h'.2.2.2.2.2.2.2.2.2]⟩ ?_
      simp only [List.getElem_toArray, List.getElem_cons_succ, List.getElem_cons_zero, Act.put, List.setIfInBounds_toArray, List.set_cons_succ, List.set_cons_zero]
      refine wpMix_n rfl rfl ?_
      go_wp2_with fail
      with_reducible refine (HD.out.1 V.drew).mono ?_
      rintro e w5 ⟨b5, s5, rfl, hW5, hB5⟩
      have H5 := hide (And.intro hW5 (show Below V.heap.size V w5 from (Below.refl V.heap.size V).drew.trans hB5))
      clear hW5 hB5
      go_wp2_with fail
      refine ⟨fun _ => HS.out w5 H5.out.2, ?_⟩
      refine wpMix_tail _ [_, _] (by kernel_rfl) rfl ?_
      simp only [List.getElem_toArray, List.getElem_cons_succ, List.getElem_cons_zero]
      go_wp2_with fail
      with_reducible refine (addW_any _ _ _ _ HD.out.2.2.2.2.1 H5.out.1 (by have := HD.out.2.2.2.1; omega) (by have := HD.out.2.2.1; omega) w5).mono ?_
      rintro e w6 ⟨b6, s6, rfl, hW6, hB6⟩
      have hBV := H5.out.2.trans (hB6.mono H5.out.2.size)
      have hG6 := HD.out.2.2.2.2.2.1.below hBV HD.out.2.2.2.2.2.1.lt
      have r0 := hG6.cell 0
      have r1 := hG6.cell 1
      have f0 := hG6.frozen 0
      have f1 := hG6.frozen 1
      have hlt := hG6.lt
      simp only [List.getElem?_toArray, List.getElem?_cons_zero, List.getElem?_cons_succ] at r0 r1
      have hBX6 := HD.out.2.2.2.2.2.2.trans (hBV.mono HD.out.2.2.2.2.2.2.size)
      have hset := (hG6.set_ 0 (.bool b6)).set_ 1 (.string s6)
      have hbel := (hBX6.setCell (p := ⟨G, 0, none⟩) HY.out.2.2 (.bool b6)).setCell (p := ⟨G, 1, none⟩) HY.out.2.2 (.string s6)
      have H6 := hide (And.intro hW6 (And.intro hset hbel))
      clear hW6 hB6 hBV hG6 hBX6 hset hbel
      go_wp2
      go_roundw
      case rel => exact ⟨k + 1, b6, s6, by omega, by go_num, H6.out.2.1, by rw [HD.out.2.1]; exact H6.out.1, H6.out.2.2⟩
      case measure => simp [intOf]; omega
    · have i1 : ¬ (k : Int) < (M : Int) := by omega
      rw [List.take_of_length_le (by rw [← HC.out.2.2.1]; omega)] at hW
      have k0 : V.cell? ⟨G, 0, none⟩ = some (.bool b) := hbl.cell 0
      have k1 : V.cell? ⟨G, 1, none⟩ = some (.string s) := hbl.cell 1
      have hr6 := HX.out.1.below hB HX.out.1.lt
      have hB9 := HX.out.2.1.trans (hB.mono HX.out.2.1.size)
      have r0 := hr6.cell 0
      have r1 := hr6.cell 1
      have f0 := hr6.frozen 0
      have f1 := hr6.frozen 1
      have hlt := hr6.lt
      simp only [List.getElem?_toArray, List.getElem?_cons_zero, List.getElem?_cons_succ] at r0 r1
      have hbx := HX.out.2.2
      have H9 := hide (And.intro hW (And.intro hB9 (And.intro hr6 hbx)))
      clear hW hB9 hr6 hbx hB hbl
      go_wp2
      refine ret_at (v := .agg #[.bool b, .string s]) (fun W => Blk W bx 46 #[.bool b, .string s]) ?_ (fun W h => ?_) rfl ⟨b, s, rfl, H9.out.1, ?_⟩
      · exact (H9.out.2.2.1.set_ 0 (.bool b)).set_ 1 (.string s)
      · have a0 := h.cell 0
        have a1 := h.cell 1
        simp only [List.getElem?_toArray, List.getElem?_cons_zero, List.getElem?_cons_succ] at a0 a1
        simp [results, Tryz.results27, go_sem, a0, a1]
      · have := H9.out.2.2.2
        exact (H9.out.2.1.setCell (by dsimp only; omega) _).setCell (by dsimp only; omega) _
end Go.Proofs.YtelfnmohpjkilaaGreatDoor
