/- Joined texts: Fin1. -/
import Derived.Test.YtgndbpkgehjelaaCB2
import Derived.Test.YtgndbpkgehjelaaCB8
/- cluster.Finest$1, cluster.Groups$1: what an element belongs to. -/
namespace Go.Proofs.Ytgndbpkgehjelaa
open Go.RowKit
theorem fitsP_min {a p : Pt} (ha : fitsP a) (hp : fitsP p) : fitsP (ancP a p) := by
  obtain ⟨⟨h1, h2⟩, ⟨h3, h4⟩, h5, h6⟩ := ha
  obtain ⟨⟨k1, k2⟩, ⟨k3, k4⟩, k5, k6⟩ := hp
  unfold ancP fitsP fits
  refine ⟨?_, ?_, ?_⟩ <;> (dsimp only; split <;> omega)
theorem fitsP_corner {t : Tri} (h : fitsT t) (j : Nat) : fitsP (corner t j) := by
  unfold corner
  split
  · exact h.1
  · split
    · exact h.2.1
    · exact h.2.2
theorem fitsP_ancT {a : Pt} {t : Tri} (ha : fitsP a) (ht : fitsT t) : fitsP (ancT a t) :=
  fitsP_min (fitsP_min (fitsP_min ha (fitsP_corner ht 0)) (fitsP_corner ht 1)) (fitsP_corner ht 2)
theorem fitsP_fold : ∀ (ts : List Tri) (a : Pt), fitsP a → (∀ t ∈ ts, fitsT t) → fitsP (ts.foldl ancT a)
  | [], _, ha, _ => ha
  | t :: ts, a, ha, h => fitsP_fold ts _ (fitsP_ancT ha (h t (by simp))) (fun u hu => h u (by simp [hu]))
theorem fitsP_anc {ts : List Tri} (h : ∀ t ∈ ts, fitsT t) : fitsP (anc ts) := by
  cases ts with
  | nil => exact ⟨⟨by decide, by decide⟩, ⟨by decide, by decide⟩, by decide, by decide⟩
  | cons t ts => exact fitsP_fold (t :: ts) _ (h t (by simp)).1 h
theorem fits_div (c : Int) (b : Nat) (hc : fits c) : fits (c / 2 ^ b) := by
  rcases Nat.eq_zero_or_pos b with rfl | hb
  · simpa using hc
  · have := div_pow_bound c b hb hc
    unfold fits; omega
theorem fits_blockC (c : Int) (b : Nat) (sh : Bool) (hc : fits c) : fits (blockC c b sh) := by
  unfold blockC
  split
  · rename_i h
    have := div_pow_bound c b h.2 hc
    unfold fits; omega
  · exact fits_div c b hc
theorem fitsP_block {ts : List Tri} (h : ∀ t ∈ ts, fitsT t) (b : Int) (sh : Bool) : fitsP (blockP ts b sh) := by
  have ha := fitsP_anc h
  exact ⟨fits_blockC _ _ _ ha.1, fits_blockC _ _ _ ha.2.1, fits_blockC _ _ _ ha.2.2⟩
theorem Sl.one {w : World} {g B : Nat} {t : Tri} {e : TypeId} (hb : Blk w g e (encT t).toArray) (hB : g < B) : Sl encT 9 w B (some ⟨g, 0, none⟩) [t] := by
  refine .inr ⟨g, 0, rfl, hB, fun i x hx j u hu => ?_⟩
  have hi : i = 0 := by
    have := (List.getElem?_eq_some_iff.1 hx).1
    simp at this; exact this
  subst hi
  simp at hx
  subst hx
  have := hb.cell (0 + 0 * 9 + j)
  rw [this]
  simpa using hu
theorem fin1_any (t : Tri) (ht : fitsT t) (bb : Nat) (b : Int) (w : World) (hc : w.cell? ⟨bb, 0, none⟩ = some (.int .i64 b)) (hbb : bb < w.heap.size) :
    Calls Try.prog 40 #[vT t, .pointer (some ⟨bb, 0, none⟩)] w fun e w' => e = .returned (vP (blockP [t] b false)) ∧ Below w.heap.size w w' := by
  go_enter Try.func40, Try.ntmps40
  have hne : w.heap.size ≠ bb := by omega
  obtain ⟨W3, hW3⟩ : ∃ W3, W3 = ((w.alloc (.cells #[.int .i64 t.1.1, .int .i64 t.1.2.1, .int .i64 t.1.2.2, .int .i64 t.2.1.1, .int .i64 t.2.1.2.1, .int .i64 t.2.1.2.2, .int .i64 t.2.2.1, .int .i64 t.2.2.2.1, .int .i64 t.2.2.2.2] 26)).alloc (.cells #[.int .i64 0, .int .i64 0, .int .i64 0] 23)).alloc (.cells #[.int .i64 t.1.1, .int .i64 t.1.2.1, .int .i64 t.1.2.2, .int .i64 t.2.1.1, .int .i64 t.2.1.2.1, .int .i64 t.2.1.2.2, .int .i64 t.2.2.1, .int .i64 t.2.2.2.1, .int .i64 t.2.2.2.2] 26) := ⟨_, rfl⟩
  have hB3 : Below w.heap.size w W3 := by rw [hW3]; exact (((Below.refl _ w).alloc (Nat.le_refl _) _).alloc (by simp) _).alloc (by simp; omega) _
  have hc3 := (hB3.cell (p := ⟨bb, 0, none⟩) hbb).trans hc
  have hbT : Blk W3 (w.heap.size + 2) 26 (encT t).toArray := by rw [hW3]; exact Blk.new' _ _ _ _ (by simp)
  have hbR : Blk W3 (w.heap.size + 1) 23 #[.int .i64 0, .int .i64 0, .int .i64 0] := by rw [hW3]; exact (Blk.new' _ _ _ _ (by simp)).alloc _
  have hsz : W3.heap.size = w.heap.size + 3 := by rw [hW3]; simp
  have hc3' := hc3
  rw [hW3] at hc3'
  go_wp2_with fail
  rw [← hW3]
  have hf : fitsP (anc [t]) := fitsP_anc (fun u hu => by simp at hu; subst hu; exact ht)
  have hm : (1 : Nat) ≤ maxLen := by unfold maxLen; omega
  refine (Block_any _ _ [t] b false W3 (Sl.one hbT (by omega)) hm hf).mono ?_
  rintro e w4 ⟨rfl, hB4⟩
  have hbR4 := hbR.below hB4 (by omega)
  have HB := hide (And.intro hB3 (And.intro hB4 hW3))
  obtain ⟨rp, hrp⟩ : ∃ rp, rp = blockP [t] b false := ⟨_, rfl⟩
  rw [← hrp]
  have r0 := hbR4.cell 0
  have r1 := hbR4.cell 1
  have r2 := hbR4.cell 2
  have f0 := hbR4.frozen 0
  have f1 := hbR4.frozen 1
  have f2 := hbR4.frozen 2
  simp only [List.getElem?_toArray, List.getElem?_cons_zero, List.getElem?_cons_succ] at r0 r1 r2
  have HRP := hide hrp
  clear hB3 hB4 hW3 hc3 hc3' hbT hbR hrp
  go_wp2_with fail
  have hR := hbR4.set3 (.int .i64 rp.1) (.int .i64 rp.2.1) (.int .i64 rp.2.2)
  have hBV : Below w.heap.size w (((w4.setCell ⟨w.heap.size + 1, 0, none⟩ (.int .i64 rp.1)).setCell ⟨w.heap.size + 1, 1, none⟩ (.int .i64 rp.2.1)).setCell ⟨w.heap.size + 1, 2, none⟩ (.int .i64 rp.2.2)) := (((HB.out.1.trans (HB.out.2.1.mono (by omega))).setCell (by simp) _).setCell (by simp) _).setCell (by simp) _
  generalize ((w4.setCell ⟨w.heap.size + 1, 0, none⟩ (.int .i64 rp.1)).setCell ⟨w.heap.size + 1, 1, none⟩ (.int .i64 rp.2.1)).setCell ⟨w.heap.size + 1, 2, none⟩ (.int .i64 rp.2.2) = V at hR hBV ⊢
  have s0 := hR.cell 0
  have s1 := hR.cell 1
  have s2 := hR.cell 2
  simp only [List.getElem?_toArray, List.getElem?_cons_zero, List.getElem?_cons_succ] at s0 s1 s2
  exact bodyPost_ret (v := vP rp) (by simp [results, Try.results40, go_sem, s0, s1, s2]) rfl ⟨by rw [← HRP.out], hBV⟩
/-- Element number k of a list of lists: its header's cell, and what it reads as. -/
theorem gro1_any (k : Nat) (bl bb bs gl c lA lc : Nat) (b : Int) (sh : Bool) (A : Option Addr) (ts : List Tri) (n : Nat) (w : World) (hl : w.cell? ⟨bl, 0, none⟩ = some (.slice (some ⟨gl, lA, none⟩) n lc)) (hk : k < n) (_hnc : n ≤ lc) (_hn : n ≤ 4294967296)
    (hcell : w.cell? ⟨gl, lA + k, none⟩ = some (.slice A ts.length c)) (hs : Sl encT 9 w w.heap.size A ts) (hts : ts.length ≤ 4294967296) (hft : ∀ t ∈ ts, fitsT t)
    (hb : w.cell? ⟨bb, 0, none⟩ = some (.int .i64 b)) (hsh : w.cell? ⟨bs, 0, none⟩ = some (.bool sh)) (hbl : bl < w.heap.size) (hbb : bb < w.heap.size) (hbs : bs < w.heap.size) (hgl : gl < w.heap.size) :
    Calls Try.prog 43 #[.int .i64 k, .pointer (some ⟨bl, 0, none⟩), .pointer (some ⟨bb, 0, none⟩), .pointer (some ⟨bs, 0, none⟩)] w fun e w' => e = .returned (vP (blockP ts b sh)) ∧ Below w.heap.size w w' := by
  go_enter Try.func43, Try.ntmps43
  obtain ⟨W, hW⟩ : ∃ W, W = w.alloc (.cells #[.int .i64 0, .int .i64 0, .int .i64 0] 23) := ⟨_, rfl⟩
  have hB1 : Below w.heap.size w W := by rw [hW]; exact (Below.refl _ w).alloc (Nat.le_refl _) _
  have hbR : Blk W w.heap.size 23 #[.int .i64 0, .int .i64 0, .int .i64 0] := by rw [hW]; exact Blk.new _ _ _
  have c0 := (hB1.cell (p := ⟨bl, 0, none⟩) hbl).trans hl
  have c1 := (hB1.cell (p := ⟨gl, lA + k, none⟩) hgl).trans hcell
  have c2 := (hB1.cell (p := ⟨bb, 0, none⟩) hbb).trans hb
  have c3 := (hB1.cell (p := ⟨bs, 0, none⟩) hbs).trans hsh
  have hsW : Sl encT 9 W W.heap.size A ts := (hs.below hB1).more hB1.size
  have hsz : w.heap.size + 1 = W.heap.size := by rw [hW]; simp
  have n0 : bl ≠ w.heap.size := by omega
  have n1 : gl ≠ w.heap.size := by omega
  have n2 : bb ≠ w.heap.size := by omega
  have n3 : bs ≠ w.heap.size := by omega
  have i1 : (k : Int) < (n : Int) := by omega
  have i2 : (0 : Int) ≤ (k : Int) := by omega
  have HH := hide (And.intro hs (And.intro hft (And.intro hB1 (And.intro hbR hsW))))
  have HW := hide hW
  clear hs hft hl hcell hb hsh hsW
  go_wp2_with fail
  rw [← HW.out]
  clear hB1 hbR hW
  have hf : fitsP (anc ts) := fitsP_anc HH.out.2.1
  have hsd : Sl encT 9 W.drew W.drew.heap.size A ts := HH.out.2.2.2.2
  have HS := hide hsd
  clear hsd
  have hm : ts.length ≤ maxLen := by unfold maxLen; omega
  have m4 : w.heap.size < W.drew.heap.size := by show w.heap.size < W.heap.size; omega
  refine wp_region_mix (fun w' => w'.cell? ⟨bl, 0, none⟩ = some (.slice (some ⟨gl, lA, none⟩) n lc) ∧ w'.cell? ⟨gl, lA + k, none⟩ = some (.slice A ts.length c) ∧ w'.cell? ⟨bb, 0, none⟩ = some (.int .i64 b) ∧ w'.cell? ⟨bs, 0, none⟩ = some (.bool sh)) [0, 1, 2, 3, 4, 5] [0, 1, 2, 3, 4, 5, 6, 7] mixed_ok (by kernel_rfl) ?_
  have hS : W.drew.cell? ⟨bl, 0, none⟩ = some (.slice (some ⟨gl, lA, none⟩) n lc) ∧ W.drew.cell? ⟨gl, lA + k, none⟩ = some (.slice A ts.length c) ∧ W.drew.cell? ⟨bb, 0, none⟩ = some (.int .i64 b) ∧ W.drew.cell? ⟨bs, 0, none⟩ = some (.bool sh) := ⟨c0, c1, c2, c3⟩
  refine wpMix_q (v := .slice (some ⟨gl, lA, none⟩) n lc) rfl rfl (fun _ _ _ h => h) hS ⟨rfl, fun W' h' => by simp [go_sem, h'.1]⟩ ?_
  refine wpMix_q (v := .int .i64 k) rfl rfl (fun _ _ _ h => h) hS ⟨rfl, fun W' h' => by simp [go_sem]⟩ ?_
  refine wpMix_q (v := .pointer (some ⟨gl, lA + k, none⟩)) rfl rfl (fun _ _ _ h => h) hS ⟨rfl, fun W' h' => by simp [go_sem, i1, i2]⟩ ?_
  refine wpMix_q (v := .slice A ts.length c) rfl rfl (fun _ _ _ h => h) hS ⟨rfl, fun W' h' => by simp [go_sem, h'.2.1]⟩ ?_
  refine wpMix_q (v := .int .i64 b) rfl rfl (fun _ _ _ h => h) hS ⟨rfl, fun W' h' => by simp [go_sem, h'.2.2.1]⟩ ?_
  refine wpMix_q (v := .bool sh) rfl rfl (fun _ _ _ h => h) hS ⟨rfl, fun W' h' => by simp [go_sem, h'.2.2.2]⟩ ?_
  refine wpMix_tail _ [_, _] (by kernel_rfl) rfl ?_
  simp only [List.getElem_toArray, List.getElem_cons_succ, List.getElem_cons_zero]
  go_wp2_with fail
  refine (Block_any A c ts b sh W.drew HS.out hm hf).mono ?_
  rintro e w4 ⟨rfl, hB4⟩
  have hbR4 := HH.out.2.2.2.1.drew.below hB4 m4
  have HB := hide hB4
  obtain ⟨rp, hrp⟩ : ∃ rp, rp = blockP ts b sh := ⟨_, rfl⟩
  rw [← hrp]
  have r0 := hbR4.cell 0
  have r1 := hbR4.cell 1
  have r2 := hbR4.cell 2
  have f0 := hbR4.frozen 0
  have f1 := hbR4.frozen 1
  have f2 := hbR4.frozen 2
  simp only [List.getElem?_toArray, List.getElem?_cons_zero, List.getElem?_cons_succ] at r0 r1 r2
  have HRP := hide hrp
  clear hB4 hrp hS c0 c1 c2 c3
  go_wp2_with fail
  have hR := hbR4.set3 (.int .i64 rp.1) (.int .i64 rp.2.1) (.int .i64 rp.2.2)
  have hBd : Below w.heap.size w w4 := (HH.out.2.2.1.trans (below_drewN (Below.refl _ W) 1)).trans (HB.out.mono (by omega))
  have hBV : Below w.heap.size w (((w4.setCell ⟨w.heap.size, 0, none⟩ (.int .i64 rp.1)).setCell ⟨w.heap.size, 1, none⟩ (.int .i64 rp.2.1)).setCell ⟨w.heap.size, 2, none⟩ (.int .i64 rp.2.2)) := ((hBd.setCell (by simp) _).setCell (by simp) _).setCell (by simp) _
  generalize ((w4.setCell ⟨w.heap.size, 0, none⟩ (.int .i64 rp.1)).setCell ⟨w.heap.size, 1, none⟩ (.int .i64 rp.2.1)).setCell ⟨w.heap.size, 2, none⟩ (.int .i64 rp.2.2) = V at hR hBV ⊢
  have s0 := hR.cell 0
  have s1 := hR.cell 1
  have s2 := hR.cell 2
  simp only [List.getElem?_toArray, List.getElem?_cons_zero, List.getElem?_cons_succ] at s0 s1 s2
  exact bodyPost_ret (v := vP rp) (by simp [results, Try.results43, go_sem, s0, s1, s2]) rfl ⟨by rw [← HRP.out], hBV⟩
end Go.Proofs.Ytgndbpkgehjelaa
