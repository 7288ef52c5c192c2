/- law13.sanity: the examples. -/
import Derived.Test.YtgndbpkgehjelaaSanLaw
import Derived.Test.YtgndbpkgehjelaaSame
import Derived.Test.YtgndbpkgehjelaaSameI
import Derived.Test.YtgndbpkgehjelaaSan6
namespace Go.Proofs.Ytgndbpkgehjelaa
open Go.RowKit Go.Sort Go.Shelf
/-- What region 4 has made when L are listed. -/
structure SanInv (W : World) (L : Nat → Bool) (vals : Nat → Value) (w : World) : Prop where
  rb : RB W w
  v0 : L 0 = true → vals 0 = vT exT
  v1 : L 1 = true → vals 1 = vT exR
  v2 : L 2 = true → vals 2 = vT exU
  v3 : L 3 = true → vals 3 = vT exS
  v4 : L 4 = true → ∃ b, vals 4 = .pointer (some ⟨b, 0, none⟩) ∧ W.heap.size ≤ b ∧ (L 6 = false → Blk w b 26 (encT ((0, 0, 0), (0, 0, 0), (0, 0, 0))).toArray) ∧ (L 6 = true → Blk w b 26 (encT exR).toArray) ∧ b < w.heap.size
  v5 : L 5 = true → ∃ b, vals 5 = .pointer (some ⟨b, 0, none⟩) ∧ W.heap.size ≤ b ∧ (L 7 = false → Blk w b 26 (encT ((0, 0, 0), (0, 0, 0), (0, 0, 0))).toArray) ∧ (L 7 = true → Blk w b 26 (encT exS).toArray) ∧ b < w.heap.size
  ne : L 4 = true → L 5 = true → vals 4 ≠ vals 5
  six : L 6 = true → L 4 = true ∧ L 5 = true
  seven : L 7 = true → ∀ j, j < 7 → L j = true
theorem SanInv.start (W : World) : SanInv W (fun _ => false) (fun _ => undef) W :=
  ⟨RB.refl _, (fun h => nomatch h), (fun h => nomatch h), (fun h => nomatch h), (fun h => nomatch h), (fun h => nomatch h), (fun h => nomatch h), (fun h => nomatch h), (fun h => nomatch h), (fun h => nomatch h)⟩
theorem SanInv.step {W : World} {L : Nat → Bool} {vals : Nat → Value} {w w' : World} (h : SanInv W L vals w) (hR : RB w w') (i : Nat) (hi : i < 4) (v : Value) (hv : v = vT (if i = 0 then exT else if i = 1 then exR else if i = 2 then exU else exS)) : SanInv W (also L i) (withV vals i v) w' := by
  have hb : ∀ b cs, Blk w b 26 cs → Blk w' b 26 cs := fun b cs h => h.below hR h.lt
  have hsz := hR.size
  have hc : i = 0 ∨ i = 1 ∨ i = 2 ∨ i = 3 := by omega
  have h4 : L 4 = true → ∃ b, vals 4 = .pointer (some ⟨b, 0, none⟩) ∧ W.heap.size ≤ b ∧ (L 6 = false → Blk w' b 26 (encT ((0, 0, 0), (0, 0, 0), (0, 0, 0))).toArray) ∧ (L 6 = true → Blk w' b 26 (encT exR).toArray) ∧ b < w'.heap.size := fun hl => by
    obtain ⟨b, e, h1, h2, h3, h5⟩ := h.v4 hl
    exact ⟨b, e, h1, fun hh => hb _ _ (h2 hh), fun hh => hb _ _ (h3 hh), by omega⟩
  have h5 : L 5 = true → ∃ b, vals 5 = .pointer (some ⟨b, 0, none⟩) ∧ W.heap.size ≤ b ∧ (L 7 = false → Blk w' b 26 (encT ((0, 0, 0), (0, 0, 0), (0, 0, 0))).toArray) ∧ (L 7 = true → Blk w' b 26 (encT exS).toArray) ∧ b < w'.heap.size := fun hl => by
    obtain ⟨b, e, h1, h2, h3, h5⟩ := h.v5 hl
    exact ⟨b, e, h1, fun hh => hb _ _ (h2 hh), fun hh => hb _ _ (h3 hh), by omega⟩
  have h7 : ∀ i, L 7 = true → ∀ j, j < 7 → also L i j = true := fun i hh j hj => by
    unfold also
    split
    · rfl
    · exact h.seven hh j hj
  subst hv
  rcases hc with rfl | rfl | rfl | rfl
  · exact ⟨h.rb.trans _ _ _ hR, fun _ => rfl, h.v1, h.v2, h.v3, h4, h5, h.ne, h.six, h7 _⟩
  · exact ⟨h.rb.trans _ _ _ hR, h.v0, fun _ => rfl, h.v2, h.v3, h4, h5, h.ne, h.six, h7 _⟩
  · exact ⟨h.rb.trans _ _ _ hR, h.v0, h.v1, fun _ => rfl, h.v3, h4, h5, h.ne, h.six, h7 _⟩
  · exact ⟨h.rb.trans _ _ _ hR, h.v0, h.v1, h.v2, fun _ => rfl, h4, h5, h.ne, h.six, h7 _⟩
theorem SanInv.alloc4 {W : World} {L : Nat → Bool} {vals : Nat → Value} {w : World} (h : SanInv W L vals w) (h4 : L 4 = false) :
    SanInv W (also L 4) (withV vals 4 (.pointer (some ⟨w.heap.size, 0, none⟩))) (w.alloc (.cells (encT ((0, 0, 0), (0, 0, 0), (0, 0, 0))).toArray 26)) := by
  have h6 : L 6 = false := by
    cases h6 : L 6 with
    | false => rfl
    | true => have := (h.six h6).1; rw [h4] at this; cases this
  refine ⟨h.rb.trans _ _ _ (RB.alloc _ _), h.v0, h.v1, h.v2, h.v3, fun _ => ⟨_, rfl, h.rb.size, fun _ => Blk.new _ _ _, fun hh => ?_, by simp⟩, fun hl => ?_, fun _ hl he => ?_, fun hh => ?_, fun hh => ?_⟩
  · have : L 6 = true := hh
    rw [h6] at this; cases this
  · obtain ⟨b, e, h1, h2, h3, h5⟩ := h.v5 hl
    exact ⟨b, e, h1, fun hh => (h2 hh).alloc _, fun hh => (h3 hh).alloc _, by simp; omega⟩
  · obtain ⟨b, e, h1, h2, h3, h5⟩ := h.v5 hl
    have he : Value.pointer (some ⟨w.heap.size, 0, none⟩) = vals 5 := he
    rw [e] at he
    injection he with he; injection he with he; injection he with he
    omega
  · have : L 6 = true := hh
    rw [h6] at this; cases this
  · have := h.seven hh 4 (by omega)
    rw [h4] at this; cases this
theorem SanInv.alloc5 {W : World} {L : Nat → Bool} {vals : Nat → Value} {w : World} (h : SanInv W L vals w) (h5 : L 5 = false) :
    SanInv W (also L 5) (withV vals 5 (.pointer (some ⟨w.heap.size, 0, none⟩))) (w.alloc (.cells (encT ((0, 0, 0), (0, 0, 0), (0, 0, 0))).toArray 26)) := by
  have h6 : L 6 = false := by
    cases h6 : L 6 with
    | false => rfl
    | true => have := (h.six h6).2; rw [h5] at this; cases this
  refine ⟨h.rb.trans _ _ _ (RB.alloc _ _), h.v0, h.v1, h.v2, h.v3, fun hl => ?_, fun _ => ⟨_, rfl, h.rb.size, fun _ => Blk.new _ _ _, fun hh => ?_, by simp⟩, fun hl _ he => ?_, fun hh => ?_, fun hh => ?_⟩
  · obtain ⟨b, e, h1, h2, h3, h7⟩ := h.v4 hl
    exact ⟨b, e, h1, fun hh => (h2 hh).alloc _, fun hh => (h3 hh).alloc _, by simp; omega⟩
  · have := h.seven hh 5 (by omega)
    rw [h5] at this; cases this
  · obtain ⟨b, e, h1, h2, h3, h7⟩ := h.v4 hl
    have he : vals 4 = Value.pointer (some ⟨w.heap.size, 0, none⟩) := he
    rw [e] at he
    injection he with he; injection he with he; injection he with he
    omega
  · have : L 6 = true := hh
    rw [h6] at this; cases this
  · have := h.seven hh 5 (by omega)
    rw [h5] at this; cases this
set_option maxRecDepth 100000 in
set_option maxHeartbeats 40000000 in
theorem sanity_any (w : World) : Calls Try.prog 12 #[] w fun e w' => e = .returned (.bool true) ∧ Below w.heap.size w w' := by
  go_enter Try.func12, Try.ntmps12
  go_wp2_with fail
  obtain ⟨W1, hW1⟩ : ∃ W1, W1 = w.alloc (.cells #[.int .i64 5, .int .i64 9, .int .i64 1, .int .i64 2, .int .i64 12, .int .i64 1, .int .i64 6, .int .i64 10, .int .i64 3] 26) := ⟨_, rfl⟩
  rw [← hW1]
  have hb1 : Blk W1 w.heap.size 26 (encT exT).toArray := by rw [hW1]; exact Blk.new _ _ _
  have hR1 : RB w W1 := by rw [hW1]; exact RB.alloc _ _
  have hz1 : W1.heap.size = w.heap.size + 1 := by rw [hW1]; simp
  obtain ⟨W2, hW2⟩ : ∃ W2, W2 = W1.alloc (.cells #[.int .i64 5, .int .i64 9, .int .i64 1, .int .i64 2, .int .i64 12, .int .i64 1, .int .i64 6, .int .i64 10, .int .i64 3] 26) := ⟨_, rfl⟩
  rw [← hW2]
  have hb2 : Blk W2 (w.heap.size + 1) 26 (encT exT).toArray := by rw [hW2, ← hz1]; exact Blk.new _ _ _
  have hb1' : Blk W2 w.heap.size 26 (encT exT).toArray := by rw [hW2]; exact hb1.alloc _
  have hR2 : RB w W2 := by rw [hW2]; exact hR1.trans _ _ _ (RB.alloc _ _)
  have hz2 : W2.heap.size = w.heap.size + 2 := by rw [hW2]; simp [hz1]
  have hs2 : Sl encT 9 W2 W2.heap.size (some ⟨w.heap.size + 1, 0, none⟩) [exT] := Sl.ofBlk encT_len hb2 rfl
  clear hW1 hW2 hb1 hR1
  refine (moved_any _ 1 [exT] (8, 0, 0) W2 hs2 (by decide)).mono ?_
  rintro e w3 ⟨u, rfl, hown, hB3⟩
  simp only [List.map_cons, List.map_nil, ex_moved, List.length_cons, List.length_nil, Nat.zero_add] at hown
  obtain ⟨g, cap, rfl, hg, hg3⟩ := hown.at (by simp)
  have hR3 : RB w w3 := hR2.trans _ _ _ hB3
  have hb3 := hb1'.below hB3 (by omega)
  obtain ⟨b', o', hA, _, hc⟩ := (hown.sl encT_len (Nat.le_refl _)).tri (i := 0) rfl
  cases hA
  have hw3 : w.heap.size + 2 ≤ w3.heap.size := by have := hB3.size; omega
  obtain ⟨c0, c1, c2, c3, c4, c5, c6, c7, c8⟩ := hc
  simp only [Nat.zero_mul, Nat.add_zero, Nat.zero_add] at c0 c1 c2 c3 c4 c5 c6 c7 c8
  have t0 := (cells9 hb3).1
  have t1 := (cells9 hb3).2.1
  have t2 := (cells9 hb3).2.2.1
  have t3 := (cells9 hb3).2.2.2.1
  have t4 := (cells9 hb3).2.2.2.2.1
  have t5 := (cells9 hb3).2.2.2.2.2.1
  have t6 := (cells9 hb3).2.2.2.2.2.2.1
  have t7 := (cells9 hb3).2.2.2.2.2.2.2.1
  have t8 := (cells9 hb3).2.2.2.2.2.2.2.2
  simp only [Nat.zero_add] at t0 t1 t2 t3 t4 t5 t6 t7 t8
  have H := hide (And.intro hR3 hb3)
  clear hR3 hb3 hR2 hb1' hb2 hs2 hB3 hown hz2 hz1
  have hlt0 : w.heap.size < w3.heap.size := by omega
  have hne : w3.heap.size ≠ w.heap.size := by omega
  have hne2 : w.heap.size ≠ w3.heap.size := by omega
  go_wp2_with fail
  obtain ⟨W5, hW5⟩ : ∃ W5, W5 = (w3.alloc (.cells #[.int .i64 exU.1.1, .int .i64 exU.1.2.1, .int .i64 exU.1.2.2, .int .i64 exU.2.1.1, .int .i64 exU.2.1.2.1, .int .i64 exU.2.1.2.2, .int .i64 exU.2.2.1, .int .i64 exU.2.2.2.1, .int .i64 exU.2.2.2.2] 26)).alloc (.cells #[.int .i64 exT.1.1, .int .i64 exT.1.2.1, .int .i64 exT.1.2.2, .int .i64 exT.2.1.1, .int .i64 exT.2.1.2.1, .int .i64 exT.2.1.2.2, .int .i64 exT.2.2.1, .int .i64 exT.2.2.2.1, .int .i64 exT.2.2.2.2] 26) := ⟨_, rfl⟩
  rw [← hW5]
  have hR5 : RB w W5 := by rw [hW5]; exact (H.out.1.trans _ _ _ (RB.alloc _ _)).trans _ _ _ (RB.alloc _ _)
  have hT5 : Blk W5 w.heap.size 26 (encT exT).toArray := by rw [hW5]; exact (H.out.2.alloc _).alloc _
  have hU5 : Blk W5 w3.heap.size 26 (encT exU).toArray := by rw [hW5]; exact (Blk.new w3 26 (encT exU).toArray).alloc _
  have hL5 : Blk W5 (w3.heap.size + 1) 26 (encT exT).toArray := by rw [hW5]; exact Blk.new' _ _ _ _ (by simp)
  clear H hW5 c0 c1 c2 c3 c4 c5 c6 c7 c8 t0 t1 t2 t3 t4 t5 t6 t7 t8 hne hne2
  have H := hide (show RB w W5.drew ∧ Blk W5.drew w.heap.size 26 (encT exT).toArray ∧ Blk W5.drew w3.heap.size 26 (encT exU).toArray ∧ Blk W5.drew (w3.heap.size + 1) 26 (encT exT).toArray from ⟨hR5.trans _ _ _ (RB.drew _), hT5, hU5, hL5⟩)
  clear hR5 hT5 hU5 hL5
  refine wp_region_inv (rs := [0, 1, 2, 3, 4, 5, 6, 7]) (ms := [0, 1, 0, 7, 0, 0, 63, 127]) (ds := [(0, 19), (1, 20), (2, 21), (3, 22), (4, 4), (5, 5)]) (SanInv W5.drew) mixed_ok (by kernel_rfl) (SanInv.start _) ⟨?s0, ?s1, ?s2, ?s3, ?s4, ?s5, ?s6, ?s7, trivial⟩ ?e
  case s0 =>
    intro L vals V hLi hL hI
    have HI := hide hI
    clear hI
    obtain ⟨t0, t1, t2, t3, t4, t5, t6, t7, t8⟩ := cells9 (H.out.2.1.below HI.out.rb H.out.2.1.lt)
    simp only [Nat.zero_add] at t0 t1 t2 t3 t4 t5 t6 t7 t8
    refine wpOp_of_list rfl ?_
    rw [san_act4]
    go_wp2
    exact ⟨by trivial, HI.out.step (RB.refl _) 0 (by omega) _ rfl⟩
  case s1 =>
    intro L vals V hLi hL hI
    have hv : vals 0 = vT exT := hI.v0 (hL 0 rfl)
    have HI := hide hI
    clear hI
    refine wpOp_of_list rfl ?_
    rw [san_act4]
    simp only [hv]
    go_wp2_with fail
    refine (rotateR_any exT V).mono ?_
    rintro e w' ⟨rfl, hB'⟩
    rw [ex_rotT]
    go_wp2
    exact ⟨by trivial, HI.out.step hB' 1 (by omega) _ rfl⟩
  case s2 =>
    intro L vals V hLi hL hI
    have HI := hide hI
    clear hI
    obtain ⟨t0, t1, t2, t3, t4, t5, t6, t7, t8⟩ := cells9 (H.out.2.2.1.below HI.out.rb H.out.2.2.1.lt)
    simp only [Nat.zero_add] at t0 t1 t2 t3 t4 t5 t6 t7 t8
    refine wpOp_of_list rfl ?_
    rw [san_act4]
    go_wp2
    exact ⟨by trivial, HI.out.step (RB.refl _) 2 (by omega) _ rfl⟩
  case s3 =>
    intro L vals V hLi hL hI
    have hv : vals 2 = vT exU := hI.v2 (hL 2 rfl)
    have HI := hide hI
    clear hI
    refine wpOp_of_list rfl ?_
    rw [san_act4]
    simp only [hv]
    go_wp2_with fail
    refine (rotateR_any exU V).mono ?_
    rintro e w' ⟨rfl, hB'⟩
    rw [ex_rotU]
    go_wp2
    exact ⟨by trivial, HI.out.step hB' 3 (by omega) _ rfl⟩
  case s4 =>
    intro L vals V hLi hL hI
    have HI := hide hI
    clear hI
    refine wpOp_of_list rfl ?_
    rw [san_act4]
    go_wp2
    exact ⟨by trivial, HI.out.alloc4 hLi⟩
  case s5 =>
    intro L vals V hLi hL hI
    have HI := hide hI
    clear hI
    refine wpOp_of_list rfl ?_
    rw [san_act4]
    go_wp2
    exact ⟨by trivial, HI.out.alloc5 hLi⟩
  case s6 =>
    intro L vals V hLi hL hI
    have hv : vals 1 = vT exR := hI.v1 (hL 1 rfl)
    obtain ⟨b, h4, hbW, hbz, _, hblt⟩ := hI.v4 (hL 4 rfl)
    have hz := hbz hLi
    obtain ⟨z0, z1, z2, z3, z4, z5, z6, z7, z8⟩ := cells9 hz
    simp only [Nat.zero_add] at z0 z1 z2 z3 z4 z5 z6 z7 z8
    have f0 := hz.frozen 0
    have f1 := hz.frozen 1
    have f2 := hz.frozen 2
    have f3 := hz.frozen 3
    have f4 := hz.frozen 4
    have f5 := hz.frozen 5
    have f6 := hz.frozen 6
    have f7 := hz.frozen 7
    have f8 := hz.frozen 8
    have HI := hide (And.intro hI hz)
    clear hI hbz hz
    refine wpOp_of_list rfl ?_
    rw [san_act4]
    simp only [hv, h4]
    go_wp2
    refine ⟨by trivial, ?_⟩
    have hRB : RB W5.drew (((((((((V.setCell ⟨b, 0, none⟩ (.int .i64 exR.1.1)).setCell ⟨b, 1, none⟩ (.int .i64 exR.1.2.1)).setCell ⟨b, 2, none⟩ (.int .i64 exR.1.2.2)).setCell ⟨b, 3, none⟩ (.int .i64 exR.2.1.1)).setCell ⟨b, 4, none⟩ (.int .i64 exR.2.1.2.1)).setCell ⟨b, 5, none⟩ (.int .i64 exR.2.1.2.2)).setCell ⟨b, 6, none⟩ (.int .i64 exR.2.2.1)).setCell ⟨b, 7, none⟩ (.int .i64 exR.2.2.2.1)).setCell ⟨b, 8, none⟩ (.int .i64 exR.2.2.2.2)) := below_set9 HI.out.1.rb hbW _ _ _ _ _ _ _ _ _
    have hset := HI.out.2.set9 (.int .i64 exR.1.1) (.int .i64 exR.1.2.1) (.int .i64 exR.1.2.2) (.int .i64 exR.2.1.1) (.int .i64 exR.2.1.2.1) (.int .i64 exR.2.1.2.2) (.int .i64 exR.2.2.1) (.int .i64 exR.2.2.2.1) (.int .i64 exR.2.2.2.2)
    have hI := HI.out.1
    have hl4 := hL 4 rfl
    have hl5 := hL 5 rfl
    refine ⟨hRB, hI.v0, hI.v1, hI.v2, hI.v3, fun _ => ⟨b, h4, hbW, fun hh => ?_, fun _ => hset, hset.lt⟩, fun hl => ?_, hI.ne, fun _ => ⟨hl4, hl5⟩, fun hh j hj => ?_⟩
    · cases (show true = false from hh)
    · obtain ⟨b5, e5, hb5, hz5, hs5, hlt5⟩ := hI.v5 hl5
      have hne : b5 ≠ b := fun e => hI.ne hl4 hl5 (by rw [h4, e5, e])
      exact ⟨b5, e5, hb5, fun hh => (hz5 hh).far9 hne _ _ _ _ _ _ _ _ _, fun hh => (hs5 hh).far9 hne _ _ _ _ _ _ _ _ _, by have := hRB.size; have := hset.lt; simp; omega⟩
    · have := hI.seven hh j hj
      unfold also
      split
      · rfl
      · exact this
  case s7 =>
    intro L vals V hLi hL hI
    have hv : vals 3 = vT exS := hI.v3 (hL 3 rfl)
    obtain ⟨b, h4, hbW, hbz, _, hblt⟩ := hI.v5 (hL 5 rfl)
    have hz := hbz hLi
    obtain ⟨z0, z1, z2, z3, z4, z5, z6, z7, z8⟩ := cells9 hz
    simp only [Nat.zero_add] at z0 z1 z2 z3 z4 z5 z6 z7 z8
    have f0 := hz.frozen 0
    have f1 := hz.frozen 1
    have f2 := hz.frozen 2
    have f3 := hz.frozen 3
    have f4 := hz.frozen 4
    have f5 := hz.frozen 5
    have f6 := hz.frozen 6
    have f7 := hz.frozen 7
    have f8 := hz.frozen 8
    have HI := hide (And.intro hI hz)
    clear hI hbz hz
    refine wpOp_of_list rfl ?_
    rw [san_act4]
    simp only [hv, h4]
    go_wp2
    refine ⟨by trivial, ?_⟩
    have hRB : RB W5.drew (((((((((V.setCell ⟨b, 0, none⟩ (.int .i64 exS.1.1)).setCell ⟨b, 1, none⟩ (.int .i64 exS.1.2.1)).setCell ⟨b, 2, none⟩ (.int .i64 exS.1.2.2)).setCell ⟨b, 3, none⟩ (.int .i64 exS.2.1.1)).setCell ⟨b, 4, none⟩ (.int .i64 exS.2.1.2.1)).setCell ⟨b, 5, none⟩ (.int .i64 exS.2.1.2.2)).setCell ⟨b, 6, none⟩ (.int .i64 exS.2.2.1)).setCell ⟨b, 7, none⟩ (.int .i64 exS.2.2.2.1)).setCell ⟨b, 8, none⟩ (.int .i64 exS.2.2.2.2)) := below_set9 HI.out.1.rb hbW _ _ _ _ _ _ _ _ _
    have hset := HI.out.2.set9 (.int .i64 exS.1.1) (.int .i64 exS.1.2.1) (.int .i64 exS.1.2.2) (.int .i64 exS.2.1.1) (.int .i64 exS.2.1.2.1) (.int .i64 exS.2.1.2.2) (.int .i64 exS.2.2.1) (.int .i64 exS.2.2.2.1) (.int .i64 exS.2.2.2.2)
    have hI := HI.out.1
    have hl4 := hL 4 rfl
    have hl5 := hL 5 rfl
    have hl6 := hL 6 rfl
    refine ⟨hRB, hI.v0, hI.v1, hI.v2, hI.v3, fun hl => ?_, fun _ => ⟨b, h4, hbW, fun hh => ?_, fun _ => hset, hset.lt⟩, hI.ne, hI.six, fun _ j hj => ?_⟩
    · obtain ⟨b5, e5, hb5, hz5, hs5, hlt5⟩ := hI.v4 hl4
      have hne : b5 ≠ b := fun e => hI.ne hl4 hl5 (by rw [h4, e5, e])
      exact ⟨b5, e5, hb5, fun hh => (hz5 hh).far9 hne _ _ _ _ _ _ _ _ _, fun hh => (hs5 hh).far9 hne _ _ _ _ _ _ _ _ _, by have := hRB.size; have := hset.lt; simp; omega⟩
    · cases (show true = false from hh)
    · have hc : j = 0 ∨ j = 1 ∨ j = 2 ∨ j = 3 ∨ j = 4 ∨ j = 5 ∨ j = 6 := by omega
      rcases hc with rfl | rfl | rfl | rfl | rfl | rfl | rfl
      all_goals exact hL _ rfl
  case e =>
    intro L vals V hL hI
    have v1 := hI.v1 (hL 1 (by decide))
    have v3 := hI.v3 (hL 3 (by decide))
    obtain ⟨b4, h4, hbW4, _, hr4, _⟩ := hI.v4 (hL 4 (by decide))
    obtain ⟨b5, h5, hbW5, _, hs5, _⟩ := hI.v5 (hL 5 (by decide))
    have hr4 := hr4 (hL 6 (by decide))
    have hs5 := hs5 (hL 7 (by decide))
    have hT := H.out.2.1.below hI.rb H.out.2.1.lt
    have hU := H.out.2.2.1.below hI.rb H.out.2.2.1.lt
    have hLl := H.out.2.2.2.below hI.rb H.out.2.2.2.lt
    have hR : RB w V := H.out.1.trans _ _ _ hI.rb
    have v0 := hI.v0 (hL 0 (by decide))
    have v2 := hI.v2 (hL 2 (by decide))
    rw [san_act4]
    simp only [v0, v1, v2, v3, h4, h5]
    obtain ⟨t0, t1, t2, t3, t4, t5, t6, t7, t8⟩ := cells9 hT
    simp only [Nat.zero_add] at t0 t1 t2 t3 t4 t5 t6 t7 t8
    clear H hlt0 hw3 hg hg3 hL
    have H := hide (And.intro hR (And.intro hT (And.intro hU (And.intro hLl (And.intro hr4 hs5)))))
    clear hR hT hU hLl hr4 hs5 hI v0 v1 v2 v3 h4 h5 hbW4 hbW5
    go_wp2_with fail
    obtain ⟨V6, hV6⟩ : ∃ V6, V6 = V.alloc (.cells (((encT exT ++ encT exT) ++ (encT exT ++ encT exT)) ++ encT exT).toArray 26) := ⟨_, rfl⟩
    have hs6 : Sl encT 9 V6 V6.heap.size (some ⟨V.heap.size, 0, none⟩) [exT, exT, exT, exT, exT] := by rw [hV6]; exact Sl.ofBlk encT_len (Blk.new _ _ _) rfl
    have hRV : RB V V6 := by rw [hV6]; exact RB.alloc _ _
    clear t0 t1 t2 t3 t4 t5 t6 t7 t8
    refine Calls.mono (hV6 ▸ split_any (some ⟨V.heap.size, 0, none⟩) 5 2 [exT, exT, exT, exT, exT] V6 hs6 (by decide) (by decide)) ?_
    rintro e w7 ⟨v, rfl, hp, hB7⟩
    rw [ex_split] at hp
    obtain ⟨Ar, cr, rfl, hcr, hlr⟩ := hp.lst encT_len
    have hB7' : RB V6 w7 := by rw [hV6]; exact hB7
    have hR7 : RB V w7.drew := (hRV.trans _ _ _ hB7').trans _ _ _ (RB.drew _)
    have H7 := hide (show RB w w7.drew ∧ Blk w7.drew w.heap.size 26 (encT exT).toArray ∧ Blk w7.drew w3.heap.size 26 (encT exU).toArray ∧ Blk w7.drew (w3.heap.size + 1) 26 (encT exT).toArray ∧ Blk w7.drew b4 26 (encT exR).toArray ∧ Blk w7.drew b5 26 (encT exS).toArray ∧ Word.met (.lists [[exR, exR], [exR, exR], [exR]]) (.slice Ar 3 cr) w7.drew from
      ⟨H.out.1.trans _ _ _ hR7, H.out.2.1.below hR7 H.out.2.1.lt, H.out.2.2.1.below hR7 H.out.2.2.1.lt, H.out.2.2.2.1.below hR7 H.out.2.2.2.1.lt, H.out.2.2.2.2.1.below hR7 H.out.2.2.2.2.1.lt, H.out.2.2.2.2.2.below hR7 H.out.2.2.2.2.2.lt, _, _, rfl, hcr, hlr⟩)
    clear H hp hcr hlr hR7 hB7 hB7' hRV hs6 hV6
    have H := H7
    clear H7
    go_wp2_with fail
    refine san_r6 _ ?hops _ _ _ _ _ _ _ _ _ _ _ _ _ _ _ _ _ _ _ _ _ _ _ _ _ _ _ _ _ _ _ _ _ _ _ _ _ _ _ _ _ _ _ _ _ _ _ _ _ _ _ _ _ _ _ _ _ _ _ _ _ _ _ _ _ _ _ _ _ _ _ _ _ _ _ _ _ _ _ _ _ _ _ _ _ _ _ _ w.heap.size w3.heap.size (w3.heap.size + 1) b4 b5 cr Ar (hide H.out.2) ?hend
    case hops => kernel_rfl
    intro vals V hR d61
    have hRw : RB w V := H.out.1.trans _ _ _ hR
    rw [san_act6]
    simp only [d61]
    go_wp2
    go_ret
    exact ⟨rfl, hRw⟩
end Go.Proofs.Ytgndbpkgehjelaa
