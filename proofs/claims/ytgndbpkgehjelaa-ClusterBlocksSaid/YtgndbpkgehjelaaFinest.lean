/- cluster.Finest. -/
import Derived.Test.YtgndbpkgehjelaaGat2
import Derived.Test.YtgndbpkgehjelaaSplit
namespace Go.Proofs.Ytgndbpkgehjelaa
open Go.RowKit Go.Sort Go.Shelf
attribute [local go_sem] Oper.semAt_some
def finestT (b most : Int) (ts : List Tri) : List (List Tri) := (sortP (keysOf (keyF b) ts)).flatMap fun p => splitT most (grp (keyF b) ts p)
theorem splitT_length (most : Int) (ts : List Tri) : (splitT most ts).length ≤ ts.length := by
  unfold splitT
  rw [List.length_map, List.length_range, ← canonT_length ts]
  exact nChunks_le (by omega)
theorem splitT_pos (most : Int) (ts : List Tri) (h : ts ≠ []) : 0 < (splitT most ts).length := by
  unfold splitT
  rw [List.length_map, List.length_range, lt_nChunks (by omega), Nat.zero_mul, canonT_length]
  exact List.length_pos_iff.2 h
theorem sum_le {ι : Type} (f : ι → List (List Tri)) (b : Nat) (h : ∀ x, (f x).length ≤ b) : ∀ l : List ι, (l.flatMap f).length ≤ l.length * b
  | [] => by simp
  | x :: l => by
    rw [List.flatMap_cons, List.length_append, List.length_cons, Nat.add_mul, Nat.one_mul]
    have := sum_le f b h l
    have := h x
    omega
set_option maxRecDepth 100000 in
set_option maxHeartbeats 2000000 in
theorem finest_any (A : Option Addr) (c : Nat) (b most : Int) (ts : List Tri) (w : World) (hs : Sl encT 9 w w.heap.size A ts) (hl : ts.length ≤ 1048576) (hft : ∀ t ∈ ts, fitsT t) (hm : most ≤ 9223372036854775807) :
    Calls Try.prog 22 #[.slice A ts.length c, .int .i64 b, .int .i64 most] w fun e w' => ∃ v, e = .returned v ∧ Pcs encT 9 26 27 w' w.heap.size v (finestT b most ts) ∧ Below w.heap.size w w' := by
  refine callsIn_wide.1 (callsIn_of_wp_marks (n := 3) Try.func22 rfl trivial ?_ rfl)
  simp only [Try.ntmps22, List.size_toArray, List.length_cons, List.length_nil, Nat.reduceAdd, Nat.reduceSub, Array.replicate_succ, Array.replicate_zero, List.push_toArray, List.append_toArray, List.nil_append, List.cons_append]
  obtain ⟨W1, hW1⟩ : ∃ W1, W1 = ((w.alloc (.cells #[.int .i64 b] 3)).alloc (.cells #[.int .i64 most] 3)).alloc (.cells #[.slice none 0 0] 28) := ⟨_, rfl⟩
  have hB1 : Below w.heap.size w W1 := by rw [hW1]; exact (((Below.refl _ w).alloc (Nat.le_refl _) _).alloc (by simp) _).alloc (by simp; omega) _
  have hsz1 : W1.heap.size = w.heap.size + 3 := by rw [hW1]; simp
  have hbb : Boxed W1 w.heap.size 3 (.int .i64 b) := by rw [hW1]; exact ((Boxed.new w _ _).alloc _).alloc _
  have hbm : Boxed W1 (w.heap.size + 1) 3 (.int .i64 most) := by
    rw [hW1]
    have h0 := Boxed.new (w.alloc (.cells #[.int .i64 b] 3)) 3 (.int .i64 most)
    rw [World.size_alloc] at h0
    exact h0.alloc _
  have hbo : Boxed W1 (w.heap.size + 1 + 1) 28 (.slice none 0 0) := by
    rw [hW1]
    have h0 := Boxed.new ((w.alloc (.cells #[.int .i64 b] 3)).alloc (.cells #[.int .i64 most] 3)) 28 (.slice none 0 0)
    rw [World.size_alloc, World.size_alloc] at h0
    exact h0
  have hs1 : Sl encT 9 W1 W1.heap.size A ts := (hs.below hB1).more (by omega)
  have H1 := hide (And.intro hB1 (And.intro hbb (And.intro hbm (And.intro hbo hs1))))
  have HW1 := hide hW1
  clear hB1 hbb hbm hbo hs1 hs hW1
  gi_wp2_with fail
  rw [← HW1.out]
  refine ⟨trivial, callsIn_wide.2 ((gat_any A c ts w.heap.size b W1 H1.out.2.2.2.2 (by omega) hft H1.out.2.1.cell (by omega)).mono ?_)⟩
  rintro e w3 ⟨rfl, hgr, hB3⟩
  obtain ⟨m, A6, c6, N, hr5, hr6, hrc, hrs, hrm, hrg⟩ := hgr
  obtain ⟨ks, hks⟩ : ∃ ks, ks = sortP (keysOf (keyF b) ts) := ⟨_, rfl⟩
  have hkl : ks.length = (keysOf (keyF b) ts).length := by rw [hks]; simp [sortP]
  have hkl2 : ks.length ≤ 1048576 := by rw [hkl]; exact Nat.le_trans (keysOf_length _ _) hl
  have hkf : ∀ p ∈ ks, fitsP p := by
    intro p hp
    rw [hks] at hp
    have hp' : p ∈ keysOf (keyF b) ts := by simpa [sortP] using hp
    obtain ⟨t, ht, rfl⟩ := (mem_keysOf (keyF b)).1 hp'
    exact fitsP_block (fun u hu => by simp at hu; rw [hu]; exact hft t ht) b false
  have hkin : ∀ p ∈ ks, grp (keyF b) ts p ≠ [] := by
    intro p hp e
    rw [hks] at hp
    exact (grp_nil (keyF b)).1 e (by simpa [sortP] using hp)
  have hsz3 : W1.heap.size + 3 ≤ w3.heap.size := by have := hr6.lt; have := hrm.lt; have := hB3.size; omega
  obtain ⟨g6, hg6, hg6l, hs6⟩ : ∃ g6, W1.heap.size + 1 ≤ g6 ∧ g6 < w3.heap.size ∧ (ks = [] ∧ A6 = none ∨ A6 = some ⟨g6, 0, none⟩ ∧ Sl encP 3 w3 w3.heap.size (some ⟨g6, 0, none⟩) ks) := by
    rcases hrs with ⟨he, hA⟩ | ⟨g, hA, hg1, hg2, hg3⟩
    · exact ⟨W1.heap.size + 1, Nat.le_refl _, by omega, .inl ⟨by rw [hks, he]; simp [sortP], hA⟩⟩
    · exact ⟨g, by omega, hg2, .inr ⟨hA, by rw [hks]; exact hg3⟩⟩
  have c6' : w3.cell? ⟨W1.heap.size + 1 + 1, 0, none⟩ = some (.slice A6 ks.length c6) := by rw [hkl]; exact hr6.cell
  have hst := gat2_stops 2 (W1.heap.size + 1) (W1.heap.size + 1 + 1) W1.heap.size g6 c6 N A6 ks m (by omega) hkf (by omega) w3 hr5.cell c6' hs6 hrm (by omega) (by omega) hg6l
  have hbo3 : Boxed w3 (w.heap.size + 1 + 1) 28 (.slice none 0 0) := boxed_below H1.out.2.2.2.1 hB3 (by omega)
  have hbm3 : Boxed w3 (w.heap.size + 1) 3 (.int .i64 most) := boxed_below H1.out.2.2.1 hB3 (by omega)
  have H3 := hide (And.intro hst (And.intro hbo3 (And.intro hbm3 (And.intro hrg (And.intro hB3 (And.intro hkin hks))))))
  have HZ := hide hsz1
  clear hst hbo3 hbm3 hrg hB3 hks hr5 hr6 hrc hrs hrm c6' hs6 hkf hkin hsz1
  gi_wp2_with fail
  have hsz1 := HZ.out
  refine wpIn_rangeFunc_ownG rfl (by omega) (gf := 54) (lb := #[.pointer (some ⟨W1.heap.size + 1 + 1, 0, none⟩), .pointer (some ⟨W1.heap.size + 1, 0, none⟩)]) rfl trivial (enters_of Try.func54 (by kernel_rfl) rfl)
    H3.out.1 Kp3.trans (Kp3.putObj (by omega) (by omega) (by omega)) (Below.refl _ _) (fun _ => rfl)
    (fun pre W => ∃ v, Boxed W (w.heap.size + 1 + 1) 28 v ∧ Pcs encT 9 26 27 W w3.heap.size v (pre.flatMap fun x => splitT most (grp (keyF b) ts (fx ks x))) ∧ w3.grownBy W (some (w.heap.size + 1 + 1)))
    (fun _ _ _ => False) ?own (fun _ _ _ _ _ hs _ _ => hs)
    ⟨_, H3.out.2.1, Pcs.nil, ⟨rfl, rfl, rfl, Nat.le_refl _, fun _ _ _ => rfl⟩⟩
    ?a1 ?assign ?body ?done ?stop
  case own =>
    rintro s X Y row ⟨v, hb, hp, hg⟩ hgr hr
    refine ⟨v, hb.kept hgr (fun e => ?_), hp.step hgr (fun r e => .inr (hr r e).2), grown_row hg hgr (fun r e => (hr r e).1)⟩
    have := (hr _ e.symm).1
    omega
  case assign =>
    intro l x W K hK
    gi_wp2
    exact hK
  case body =>
    rintro l pre x W ⟨v, hbx, hp, hg⟩ hlt
    have hbc := hbx.cell
    obtain ⟨p, hp0⟩ : ∃ p, p = fx ks x := ⟨_, rfl⟩
    have hpk : p ∈ ks := by rw [hp0]; exact fx_mem x (by omega)
    have hgo : Own encT 9 26 W (W1.heap.size + 3) (m p) (grp (keyF b) ts p).length (grp (keyF b) ts p) := (H3.out.2.2.2.1.1 p).kept hg (by
      cases hob : (m p).ownBlock with
      | none => exact .inl rfl
      | some r =>
        refine .inr (fun e => ?_)
        have := ((H3.out.2.2.2.1.1 p).blk r hob).1
        injection e with e
        omega)
    obtain ⟨gA, gc, hgv⟩ := hgo.form
    rw [hgv] at hgo
    have hsG : Sl encT 9 W W.heap.size gA (grp (keyF b) ts p) := hgo.sl encT_len (Nat.le_refl _)
    have hgl : (grp (keyF b) ts p).length ≤ 1048576 := Nat.le_trans (grp_length _ _ _) hl
    have hcm : W.cell? ⟨w.heap.size + 1, 0, none⟩ = some (.int .i64 most) := (H3.out.2.2.1.kept hg (fun e => by injection e with e; omega)).cell
    have hgn := H3.out.2.2.2.2.2.1 p hpk
    obtain ⟨vA, vc, rfl⟩ := hp.form
    obtain ⟨np, hnp⟩ : ∃ np, np = (pre.flatMap fun x => splitT most (grp (keyF b) ts (fx ks x))).length := ⟨_, rfl⟩
    rw [← hnp] at hbc
    have hnpb : np ≤ 1048576 * 1048576 := by
      rw [hnp]
      refine Nat.le_trans (sum_le _ 1048576 (fun x => Nat.le_trans (splitT_length _ _) (Nat.le_trans (grp_length _ _ _) hl)) pre) ?_
      exact Nat.mul_le_mul_right _ (by omega)
    rw [← hp0, hgv]
    have HX := hide (And.intro hg (And.intro hp (And.intro hbx (And.intro hsG (And.intro hnp (And.intro hp0 hgn))))))
    clear hg hp hbx hsG hgo hgv hnp hp0 hgn hpk
    gi_wp2_with fail
    refine wpIn_region_mix (fun W' => W'.cell? ⟨w.heap.size + 1 + 1, 0, none⟩ = some (.slice vA np vc)) [0, 1] [0, 1, 2, 3, 4, 5] mixed_ok (by kernel_rfl) (by kernel_rfl) (by rintro ⟨_, _, h⟩; exact h) ?_
    refine wpMix_q (v := .slice vA np vc) rfl rfl (fun _ _ _ h => h) hbc ⟨rfl, fun W' h' => by simp [go_sem, h']⟩ ?_
    refine wpMix_q (v := .slice gA (grp (keyF b) ts p).length gc) rfl rfl (fun _ _ _ h => h) hbc ⟨rfl, fun W' h' => by simp [go_sem]⟩ ?_
    refine wpMix_n rfl rfl ?_
    go_wp2_with fail
    refine ⟨fun _ => hbc, ?_⟩
    refine wpMix_n rfl rfl ?_
    have hBW : Below W.heap.size W W.drew := below_drewN (Below.refl _ W) 1
    go_wp2_with fail
    refine (split_any gA gc most (grp (keyF b) ts p) W.drew HX.out.2.2.2.1 (by omega) hm).mono ?_
    rintro e w4 ⟨v2, rfl, hp2, hB4⟩
    have hbc4 : w4.cell? ⟨w.heap.size + 1 + 1, 0, none⟩ = some (.slice vA np vc) := (hB4.cell (p := ⟨w.heap.size + 1 + 1, 0, none⟩) HX.out.2.2.1.lt).trans hbc
    have hspos := splitT_pos most _ HX.out.2.2.2.2.2.2
    have hsle : (splitT most (grp (keyF b) ts p)).length ≤ 1048576 := Nat.le_trans (splitT_length _ _) hgl
    obtain ⟨rs, hrs, hrq⟩ := hp2
    have hrl : rs.length = (splitT most (grp (keyF b) ts p)).length := hrs.1.symm
    obtain ⟨g2, cap2, hv2, hg2a, hg2b⟩ := hrs.at (by intro e; rw [e] at hrl; simp at hrl; omega)
    rw [← hrl] at hv2
    subst hv2
    have hW3 : w3.heap.size ≤ W.heap.size := HX.out.1.size
    have hW4 : W.heap.size ≤ w4.heap.size := hB4.size
    have hrsl : Sl encS 1 w4 w4.heap.size (some ⟨g2, 0, none⟩) rs := by
      have := hrs
      rw [← hrl] at this
      exact this.sl encS_len (Nat.le_refl _)
    have hB04 : Below W.heap.size W w4 := hBW.trans (show Below W.heap.size W.drew w4 from hB4)
    obtain ⟨ss, hss4, hpp4⟩ := HX.out.2.1.below hB04 (Nat.le_refl _)
    have hss4' := hss4
    rw [← HX.out.2.2.2.2.1] at hss4'
    have hbx4 : Boxed w4 (w.heap.size + 1 + 1) 28 (.slice vA np vc) := by
      have := boxed_below HX.out.2.2.1 hB04 HX.out.2.2.1.lt
      rw [← HX.out.2.2.2.2.1] at this
      exact this
    have HQ := hide (And.intro hss4 (And.intro hpp4 (And.intro hB04 (And.intro hrq hrl))))
    have hrb : rs.length ≤ 1048576 := by omega
    have hrp : 0 < rs.length := by omega
    clear hss4 hpp4 hB04 hrq hrs hB4 hrl
    go_wp2_with fail
    refine ⟨fun _ => hbc4, ?_⟩
    refine wpMix_tail _ [_, _] (by kernel_rfl) rfl ?_
    simp only [List.getElem_toArray, List.getElem_cons_succ, List.getElem_cons_zero]
    refine wpList_appendN rfl _ _ _ rfl Try.underlying28 info27 rfl (by omega) encS_len encS_one rfl hss4' g2 cap2 0 w4.heap.size rs rfl hrsl (by omega) (by unfold maxLen; omega) (by omega) (by omega) ?_
    intro g cap w5 hown5 hg5 hB5 hat5 hgb5 hlt5; have hbx5 := hbx4.kept hg5 (hbx4.not_row (by decide) hss4'.2); have hc5 := hbx5.cell; have hf5 := hbx5.frozen
    go_wp2_with fail
    have hT : Turns w3.heap.size (w.heap.size + 1 + 1) W (w5.setCell ⟨w.heap.size + 1 + 1, 0, none⟩ (.slice (some ⟨g, 0, none⟩) (np + rs.length) cap)) :=
      (Turns.of_below HQ.out.2.2.1).trans ((Turns.row hg5 (fun r hr => .inr ⟨(hss4'.blk r hr).1, by obtain ⟨cs, hc⟩ := hss4'.cells r hr; exact ⟨cs, _, _, hc⟩⟩)).trans (Turns.set w5 _))
    have hheap : ∀ i, i < w3.heap.size → i ≠ w.heap.size + 1 + 1 → (w5.setCell ⟨w.heap.size + 1 + 1, 0, none⟩ (.slice (some ⟨g, 0, none⟩) (np + rs.length) cap)).heap[i]? = W.heap[i]? := fun i hi hne => by
      have hiW : i < W.heap.size := by omega
      rw [Array.getElem?_eq_getElem hiW]
      exact hT.2.2.2.2 i _ (Array.getElem?_eq_getElem hiW) hne (.inl hi)
    refine ⟨hT.keeps (by omega), ⟨hT.2.2.2.1, hheap _ (by omega) (by omega), hheap _ hg6l (by omega), hheap _ (by omega) (by omega)⟩, _, hbx5.set _, ?_, hT.grown HX.out.1⟩
    rw [List.flatMap_append, List.flatMap_cons, List.flatMap_nil, List.append_nil, ← HX.out.2.2.2.2.2.1]
    refine Pcs.step (Pcs.appendAll (by decide) HQ.out.1 HQ.out.2.2.2.2 HQ.out.2.1 (fun i q hi => ?_) (by rw [← HX.out.2.2.2.2.1]; exact hg5) ?_) (grownBy_setCell' w5 (w.heap.size + 1 + 1) _) (fun r e => .inl (by cases e; omega))
    · obtain ⟨A', c', h1, h2⟩ := HQ.out.2.2.2.1 i q hi
      exact ⟨A', c', h1, h2.base_le (show w3.heap.size ≤ W.drew.heap.size from hW3)⟩
    · rw [← HX.out.2.2.2.2.1, ← HQ.out.2.2.2.2]
      exact hown5
  case done =>
    rintro D ys W hD rfl ⟨v, hbx, hp, hg⟩ hK
    have hc := hbx.cell
    have hfl : (ys.flatMap fun x => splitT most (grp (keyF b) ts (fx ys x))) = finestT b most ts := by
      unfold finestT
      rw [← H3.out.2.2.2.2.2.2]
      have : (ys.map fun x => splitT most (grp (keyF b) ts (fx ys x))) = ys.map fun p => splitT most (grp (keyF b) ts p) := List.map_congr_left fun x hx => by rw [fx_id hx]
      simp only [List.flatMap, this]
    rw [hfl] at hp
    obtain ⟨vA, vc, rfl⟩ := hp.form
    have HX := hide (And.intro hp (And.intro hbx hg))
    clear hp hbx hg
    gi_wp2
    refine ⟨by simp, .inl ⟨_, _, rfl, run_takeDeferred hK, ?_⟩⟩
    refine ⟨_, results_tmp rfl _ _ _, _, rfl, ?_, ?_⟩
    · have := HX.out.1.step (grownBy_putObj' W D (.deferred none)) (fun r e => .inr (by cases e; exact ⟨_, hK, rfl⟩))
      exact this.base_le (show w.heap.size ≤ w3.heap.size by omega)
    · have h2 := H1.out.1.trans (H3.out.2.2.2.2.1.mono (show w.heap.size ≤ W1.heap.size by omega))
      have h3 := h2.grown HX.out.2.2 (show w.heap.size ≤ w3.heap.size by omega) (fun r e => by cases e; omega)
      exact h3.trans (belowK_b (w := w) (Nat.le_refl _) W D _ _ (by omega) hK rfl rfl)
  case stop =>
    rintro D c pre W _ _ h _
    exact h.elim
end Go.Proofs.Ytgndbpkgehjelaa
