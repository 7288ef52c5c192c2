/- slices.AppendSeq, slices.Collect, over the iterator of gathered at integers. -/
import Derived.Test.YtgndbpkgehjelaaGat2I
import Derived.Test.YtgndbpkgehjelaaSplit
namespace Go.Proofs.Ytgndbpkgehjelaa
open Go.RowKit Go.Sort Go.Shelf
attribute [local go_sem] Oper.semAt_some
theorem info31 : (Try.prog.info? 31).map (fun i => (i.zero, i.size, i.bytes)) = some (some (.slice none 0 0), 1, 24) := by kernel_rfl
def hdrOf : Value → Hdr
  | .slice A n c => (A, n, c)
  | _ => (none, 0, 0)
def groupsT (key : Nat → Pt) (xs : List Nat) : List (List Nat) := (sortP (keysOf key xs)).map (grp key xs)
set_option maxRecDepth 100000 in
set_option maxHeartbeats 2000000 in
theorem appendSeq_any (b0 : Nat) (key : Nat → Pt) (xs : List Nat) (w : World) (hl : xs.length ≤ 1048576) (hkf : ∀ t ∈ xs, fitsP (key t)) (hgr : GatRI b0 key xs w) :
    Calls Try.prog 55 #[.slice none 0 0, .func (.func 57) #[] #[.pointer (some ⟨b0 + 1 + 1, 0, none⟩), .pointer (some ⟨b0 + 1, 0, none⟩)]] w fun e w' =>
      ∃ v, e = .returned v ∧ Pcs encI 1 3 31 w' (b0 + 3) v (groupsT key xs) ∧ Below w.heap.size w w' := by
  refine callsIn_wide.1 (callsIn_of_wp_marks (n := 3) Try.func55 rfl trivial ?_ rfl)
  simp only [Try.ntmps55, List.size_toArray, List.length_cons, List.length_nil, Nat.reduceAdd, Nat.reduceSub, Array.replicate_succ, Array.replicate_zero, List.push_toArray, List.append_toArray, List.nil_append, List.cons_append]
  obtain ⟨w3, hw3⟩ : ∃ w3, w3 = w.alloc (.cells #[.slice none 0 0] 45) := ⟨_, rfl⟩
  have hB3 : Below w.heap.size w w3 := by rw [hw3]; exact (Below.refl _ w).alloc (Nat.le_refl _) _
  have hbo3 : Boxed w3 w.heap.size 45 (.slice none 0 0) := by rw [hw3]; exact Boxed.new _ _ _
  have hsz3 : w3.heap.size = w.heap.size + 1 := by rw [hw3]; simp
  obtain ⟨m, A6, c6, N, hr5, hr6, hrc, hrs, hrm, hrg⟩ := hgr
  obtain ⟨ks, hks⟩ : ∃ ks, ks = sortP (keysOf key xs) := ⟨_, rfl⟩
  have hkl : ks.length = (keysOf key xs).length := by rw [hks]; simp [sortP]
  have hkl2 : ks.length ≤ 1048576 := by rw [hkl]; exact Nat.le_trans (keysOf_length _ _) hl
  have hkf2 : ∀ p ∈ ks, fitsP p := by
    intro p hp
    rw [hks] at hp
    have hp' : p ∈ keysOf key xs := by simpa [sortP] using hp
    obtain ⟨t, ht, rfl⟩ := (mem_keysOf key).1 hp'
    exact hkf t ht
  have hbs : b0 + 3 ≤ w.heap.size := by have := hr6.lt; omega
  have hr5l := hr5.lt
  obtain ⟨g6, hg6l, hs6⟩ : ∃ g6, g6 < w.heap.size ∧ (ks = [] ∧ A6 = none ∨ A6 = some ⟨g6, 0, none⟩ ∧ Sl encP 3 w3 w3.heap.size (some ⟨g6, 0, none⟩) ks) := by
    rcases hrs with ⟨he, hA⟩ | ⟨g, hA, hg1, hg2, hg3⟩
    · exact ⟨b0 + 1, by omega, .inl ⟨by rw [hks, he]; simp [sortP], hA⟩⟩
    · exact ⟨g, hg2, .inr ⟨hA, by rw [hks]; exact (hg3.below hB3).more (by omega)⟩⟩
  have c6' : w3.cell? ⟨b0 + 1 + 1, 0, none⟩ = some (.slice A6 ks.length c6) := by rw [hkl]; exact (boxed_below hr6 hB3 hr6.lt).cell
  have hst := gat2I_stops 2 (b0 + 1) (b0 + 1 + 1) b0 g6 c6 N A6 ks m (by omega) hkf2 (by omega) w3 (boxed_below hr5 hB3 hr5.lt).cell c6' hs6 (map_below hrm hB3 (Nat.le_refl _)) (by omega) (by omega) (by omega)
  have hrg3 := hrg.below hB3 (Nat.le_refl _)
  have H3 := hide (And.intro hst (And.intro hbo3 (And.intro hrg3 (And.intro hB3 hks))))
  have HZ := hide hsz3
  have HW := hide hw3
  clear hkl hst hbo3 hrg hrg3 hB3 hks hr5 hr6 hrc hrs hrm c6' hs6 hkf2 hsz3 hw3
  gi_wp2_with fail
  have hsz3 := HZ.out
  rw [← HW.out]
  refine wpIn_rangeFunc_ownG rfl (by omega) (gf := 57) (lb := #[.pointer (some ⟨b0 + 1 + 1, 0, none⟩), .pointer (some ⟨b0 + 1, 0, none⟩)]) rfl trivial (enters_of Try.func57 (by kernel_rfl) rfl)
    H3.out.1 Kp3.trans (Kp3.putObj (by omega) (by omega) (by omega)) (Below.refl _ _) (fun _ => rfl)
    (fun pre W => ∃ v, Boxed W w.heap.size 45 v ∧ Own encS 1 31 W w3.heap.size v pre.length (pre.map fun x => hdrOf (m (fx ks x))) ∧ w3.grownBy W (some w.heap.size))
    (fun _ _ _ => False) ?own (fun _ _ _ _ _ hs _ _ => hs)
    ⟨_, H3.out.2.1, Own.nil, ⟨rfl, rfl, rfl, Nat.le_refl _, fun _ _ _ => rfl⟩⟩
    ?a1 ?assign ?body ?done ?stop
  case own =>
    rintro s X Y row ⟨v, hb, hp, hg⟩ hgr hr
    refine ⟨v, hb.kept hgr (fun e => ?_), hp.step hgr (fun r e => .inr (fun cs hc => ?_)), grown_row hg hgr (fun r e => (hr r e).1)⟩
    · have := (hr _ e.symm).1
      omega
    · obtain ⟨o, ho, hoc⟩ := (hr r e).2
      rw [ho] at hc
      cases hc
      cases hoc
  case assign =>
    intro l x W K hK
    gi_wp2
    exact hK
  case body =>
    rintro l pre x W ⟨v, hbx, hp, hg⟩ hlt
    have hbc := hbx.cell
    obtain ⟨p, hp0⟩ : ∃ p, p = fx ks x := ⟨_, rfl⟩
    obtain ⟨gA, gc, hgv⟩ := (H3.out.2.2.1.1 p).form
    obtain ⟨vA, vc, rfl⟩ := hp.form
    rw [← hp0, hgv]
    have hW3 : w3.heap.size ≤ W.heap.size := hg.size
    obtain ⟨X, hX⟩ : ∃ X, X = W.alloc (.cells #[.slice gA (grp key xs p).length gc] 31) := ⟨_, rfl⟩
    have hoX : Own encS 1 31 X w3.heap.size (.slice vA pre.length vc) pre.length (pre.map fun x => hdrOf (m (fx ks x))) := by rw [hX]; exact hp.alloc _
    have hbX : Boxed X w.heap.size 45 (.slice vA pre.length vc) := by rw [hX]; exact hbx.alloc _
    have hnX : Blk X W.heap.size 31 (encS (gA, (grp key xs p).length, gc)).toArray := by rw [hX]; exact Blk.new _ _ _
    have hbX' : Below W.heap.size W X := by rw [hX]; exact (Below.refl _ W).alloc (Nat.le_refl _) _
    have hszX : X.heap.size = W.heap.size + 1 := by rw [hX]; simp
    have hoX' := hoX
    have hnX' := hnX
    have hbX2 := hbX
    rw [hX] at hoX' hnX' hbX2
    have HX := hide (And.intro hg (And.intro hoX (And.intro hbX (And.intro hbX' (And.intro hp0 hgv)))))
    have HXe := hide hX
    clear hg hp hbx hgv hp0 hX hoX hbX hnX hbX'
    refine wpIn_block (wpIn_region_list (by kernel_rfl) (by rintro ⟨_, _, h⟩; exact h) ?_)
    go_wp2_with (at_builtin; refine wpList_append1 rfl _ _ _ rfl Try.underlying45 info31 rfl (by omega) encS_len encS_one rfl hoX' W.heap.size 1 (gA, (grp key xs p).length, gc) rfl hnX' (by unfold maxLen; omega) (by omega) (by simp; omega) ?_; intro g cap w5 hown5 hg5 hB5 hat5 hgb5 hlt5; have hbx5 := hbX2.kept hg5 (hbX2.not_row (by decide) hoX'.2); have hc5 := hbx5.cell; have hf5 := hbx5.frozen)
    have hT : Turns w3.heap.size w.heap.size W (w5.setCell ⟨w.heap.size, 0, none⟩ (.slice (some ⟨g, 0, none⟩) (pre.length + 1) cap)) :=
      (Turns.alloc W _).trans ((Turns.row hg5 (fun r hr => .inr ⟨(hoX'.blk r hr).1, by obtain ⟨cs, hc⟩ := hoX'.cells r hr; exact ⟨cs, _, _, hc⟩⟩)).trans (Turns.set w5 _))
    have hheap : ∀ i, i < w3.heap.size → i ≠ w.heap.size → (w5.setCell ⟨w.heap.size, 0, none⟩ (.slice (some ⟨g, 0, none⟩) (pre.length + 1) cap)).heap[i]? = W.heap[i]? := fun i hi hne => by
      have hiW : i < W.heap.size := by omega
      rw [Array.getElem?_eq_getElem hiW]
      exact hT.2.2.2.2 i _ (Array.getElem?_eq_getElem hiW) hne (.inl hi)
    refine ⟨hT.keeps (by omega), ⟨hT.2.2.2.1, hheap _ (by omega) (by omega), hheap _ (by omega) (by omega), hheap _ (by omega) (by omega)⟩, _, hbx5.set _, ?_, hT.grown HX.out.1⟩
    rw [List.map_append, List.map_cons, List.map_nil, List.length_append, List.length_singleton, ← HX.out.2.2.2.2.1, HX.out.2.2.2.2.2]
    exact hown5.step (grownBy_setCell' w5 w.heap.size _) (fun r e => .inl (by cases e; omega))
  case done =>
    rintro D ys W hD rfl ⟨v, hbx, hp, hg⟩ hK
    have hc := hbx.cell
    obtain ⟨vA, vc, rfl⟩ := hp.form
    have HX := hide (And.intro hp (And.intro hbx hg))
    clear hp hbx hg
    gi_wp2
    refine ⟨by simp, .inl ⟨_, _, rfl, run_takeDeferred hK, ?_⟩⟩
    refine ⟨_, results_tmp rfl _ _ _, _, rfl, ?_, ?_⟩
    · have hgt : groupsT key xs = ys.map (grp key xs) := by unfold groupsT; rw [H3.out.2.2.2.2]
      have hgP := grownBy_putObj' W D (.deferred none)
      rw [hgt]
      refine ⟨ys.map fun x => hdrOf (m (fx ys x)), ?_, fun i q hq => ?_⟩
      · rw [List.length_map]
        exact (HX.out.1.step hgP (fun r e => .inr (fun cs hc => by cases e; rw [hK] at hc; cases hc))).base_le (show b0 + 3 ≤ w3.heap.size by omega)
      · rw [List.getElem?_map] at hq
        obtain ⟨x, hx, rfl⟩ := Option.map_eq_some_iff.1 hq
        obtain ⟨gA, gc, hgv⟩ := (H3.out.2.2.1.1 x).form
        have hfx : fx ys x = x := fx_id (List.mem_of_getElem? hx)
        refine ⟨gA, gc, by rw [List.getElem?_map, hx]; simp [hfx, hgv, hdrOf], ?_⟩
        have h1 := (H3.out.2.2.1.1 x).kept HX.out.2.2 (by
          cases hob : (m x).ownBlock with
          | none => exact .inl rfl
          | some r =>
            refine .inr (fun e => ?_)
            injection e with e
            subst e
            obtain ⟨cs, hc⟩ := (H3.out.2.2.1.1 x).cells _ hob
            have := (show w3.heap[w.heap.size]? = _ from H3.out.2.1).symm.trans hc
            simp at this)
        rw [hgv] at h1
        exact h1.step hgP (fun r e => .inr (fun cs hc => by cases e; rw [hK] at hc; cases hc))
    · have h3 := H3.out.2.2.2.1.grown HX.out.2.2 (show w.heap.size ≤ w3.heap.size by omega) (fun r e => by cases e; omega)
      exact h3.trans (belowK_b (w := w) (Nat.le_refl _) W D _ _ (by omega) hK rfl rfl)
  case stop =>
    rintro D c pre W _ _ h _
    exact h.elim
theorem collect_any (b0 : Nat) (key : Nat → Pt) (xs : List Nat) (w : World) (hl : xs.length ≤ 1048576) (hkf : ∀ t ∈ xs, fitsP (key t)) (hgr : GatRI b0 key xs w) :
    Calls Try.prog 41 #[.func (.func 57) #[] #[.pointer (some ⟨b0 + 1 + 1, 0, none⟩), .pointer (some ⟨b0 + 1, 0, none⟩)]] w fun e w' =>
      ∃ v, e = .returned v ∧ Pcs encI 1 3 31 w' (b0 + 3) v (groupsT key xs) ∧ Below w.heap.size w w' := by
  have HA := hide (appendSeq_any b0 key xs w hl hkf hgr)
  clear hgr hkf
  go_enter Try.func41, Try.ntmps41
  go_wp2_with fail
  refine (unhide HA).mono ?_
  rintro e w1 ⟨v, rfl, hp, hB⟩
  go_wp2
  go_ret
  exact ⟨v, rfl, hp, hB⟩
end Go.Proofs.Ytgndbpkgehjelaa
