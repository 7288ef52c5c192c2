/- cluster.Groups. -/
import Derived.Test.YtgndbpkgehjelaaColl
import Derived.Deep.OwnRows
namespace Go.Proofs.Ytgndbpkgehjelaa
open Go.RowKit Go.Sort Go.Shelf
/-- The slice at A reads as a list of lists of triangles. -/
abbrev Lst (w : World) (B : Nat) (A : Option Addr) (ls : List (List Tri)) : Prop := LstE encT 9 w B A ls
def keyL (ls : List (List Tri)) (b : Int) (sh : Bool) (k : Nat) : Pt := blockP (ls.getD k []) b sh
def groupsL (ls : List (List Tri)) (b : Int) (sh : Bool) : List (List Nat) := groupsT (keyL ls b sh) (List.range ls.length)
set_option maxRecDepth 100000 in
set_option maxHeartbeats 2000000 in
theorem groups_any (A : Option Addr) (c : Nat) (ls : List (List Tri)) (b : Int) (sh : Bool) (w : World) (hs : Lst w w.heap.size A ls) (hc : ls.length ≤ c) (hl : ls.length ≤ 1048576) (hll : ∀ p ∈ ls, p.length ≤ 4294967296) (hft : ∀ p ∈ ls, ∀ t ∈ p, fitsT t) :
    Calls Try.prog 25 #[.slice A ls.length c, .int .i64 b, .bool sh] w fun e w' => ∃ v, e = .returned v ∧ Pcs encI 1 3 31 w' w.heap.size v (groupsL ls b sh) ∧ Below w.heap.size w w' := by
  have hmk := fun (n : Nat) (h : 8 * n ≤ 281474976710656) => run_make_row' (P := Try.prog) 31 3 (.int .i64 0) 8 Try.underlying31 infoI rfl .i64 .i64 n h (by omega)
  have hmk' := hmk ls.length (by omega)
  clear hmk
  go_enter Try.func25, Try.ntmps25
  obtain ⟨W1, hW1⟩ : ∃ W1, W1 = ((w.alloc (.cells #[.slice A ls.length c] 28)).alloc (.cells #[.int .i64 b] 3)).alloc (.cells #[.bool sh] 4) := ⟨_, rfl⟩
  have hB1 : Below w.heap.size w W1 := by rw [hW1]; exact (((Below.refl _ w).alloc (Nat.le_refl _) _).alloc (by simp) _).alloc (by simp; omega) _
  have hsz1 : W1.heap.size = w.heap.size + 3 := by rw [hW1]; simp
  have hbl : Boxed W1 w.heap.size 28 (.slice A ls.length c) := by rw [hW1]; exact ((Boxed.new w _ _).alloc _).alloc _
  have hbb : Boxed W1 (w.heap.size + 1) 3 (.int .i64 b) := by
    rw [hW1]
    have h0 := Boxed.new (w.alloc (.cells #[.slice A ls.length c] 28)) 3 (.int .i64 b)
    rw [World.size_alloc] at h0
    exact h0.alloc _
  have hbs : Boxed W1 (w.heap.size + 1 + 1) 4 (.bool sh) := by
    rw [hW1]
    have h0 := Boxed.new ((w.alloc (.cells #[.slice A ls.length c] 28)).alloc (.cells #[.int .i64 b] 3)) 4 (.bool sh)
    rw [World.size_alloc, World.size_alloc] at h0
    exact h0
  have hs1 : Lst W1 W1.heap.size A ls := (LstE.below hs hB1).more (by omega)
  obtain ⟨n, hn⟩ : ∃ n, n = ls.length := ⟨_, rfl⟩
  have H1 := hide (And.intro hB1 (And.intro hbl (And.intro hbb (And.intro hbs (And.intro hs1 hn)))))
  have HW1 := hide hW1
  have HZ := hide hsz1
  clear hB1 hbl hbb hbs hs1 hs hW1 hsz1 hn
  go_wp2
  clear hmk'
  rw [← HW1.out]
  go_loopw [14] (fun i wr => ∃ k : Nat, k ≤ ls.length ∧ i = .int .i64 k ∧ Below W1.heap.size W1 wr ∧ ∃ cs : Array Value, Blk wr (w.heap.size + 1 + 1 + 1) 3 cs ∧ cs.size = ls.length ∧ ∀ i, i < k → cs[i]? = some (.int .i64 i)) (fun i _ => ls.length - (intOf i).toNat)
  case atStart =>
    refine ⟨0, Nat.zero_le _, rfl, (Below.refl _ W1).alloc (Nat.le_refl _) _, _, Blk.new' _ _ _ _ (by rw [HZ.out]), ?_, fun i hi => absurd hi (by omega)⟩
    simp [madeCells]
  case round =>
    obtain ⟨k, hk, rfl, hB, cs, hcs, hcz, hcv⟩ := hrel
    have hz1 := HZ.out
    by_cases hlt : k < ls.length
    · have hcell := hcs.cell k
      have hfr := hcs.frozen k
      obtain ⟨u0, hu0⟩ : ∃ u0, cs[k]? = some u0 := ⟨_, Array.getElem?_eq_getElem (by omega)⟩
      rw [hu0] at hcell
      clear hu0
      have i1 : (k : Int) < (ls.length : Int) := by omega
      have H := hide (And.intro hB (And.intro hcs (And.intro hcz hcv)))
      clear hB hcs hcz hcv hz1
      go_wp2
      go_roundw
      case rel =>
        refine ⟨k + 1, by omega, by go_num, H.out.1.setCell (by have := HZ.out; simp; omega) _, _, H.out.2.1.set_ k _, by simp [H.out.2.2.1], fun i hi => ?_⟩
        rw [Array.getElem?_setIfInBounds]
        by_cases hik : k = i
        · subst hik
          rw [if_pos rfl, if_pos (by have := H.out.2.2.1; omega)]
        · rw [if_neg hik]
          exact H.out.2.2.2 i (by omega)
      case measure => simp [intOf]; omega
    · have hke : k = ls.length := by omega
      have HK := hide hke
      have hszr := hB.size
      have hgs : w.heap.size + 1 + 1 + 1 < wr.heap.size := hcs.lt
      have hsl : Sl encI 1 wr wr.heap.size (some ⟨w.heap.size + 1 + 1 + 1, 0, none⟩) (List.range ls.length) := by
        refine .inr ⟨_, 0, rfl, hgs, fun i x hx j u hu => ?_⟩
        have hi : i < ls.length := by have := (List.getElem?_eq_some_iff.1 hx).1; simpa using this
        have hxi : x = i := by
          have := (List.getElem?_eq_some_iff.1 hx).2
          simpa using this.symm
        subst hxi
        have hj : j = 0 := by
          have := (List.getElem?_eq_some_iff.1 hu).1
          simp [encI] at this; exact this
        subst hj
        have := hcs.cell (0 + x * 1 + 0)
        rw [this]
        simp only [Nat.zero_add, Nat.mul_one, Nat.add_zero]
        rw [hcv x (by omega)]
        exact hu
      have hbl := boxed_below H1.out.2.1 hB (by omega)
      have hbb := boxed_below H1.out.2.2.1 hB (by omega)
      have hbs := boxed_below H1.out.2.2.2.1 hB (by omega)
      have hls := LstE.below H1.out.2.2.2.2.1 hB
      have hkf : ∀ t ∈ List.range ls.length, fitsP (keyL ls b sh t) := by
        intro t ht
        have ht' : t < ls.length := by simpa using ht
        have hge : ls.getD t [] = ls[t] := by simp [List.getD, ht']
        unfold keyL
        rw [hge]
        exact fitsP_block (hft _ (List.getElem_mem ht')) b sh
      have hto : ∀ u ∈ List.range ls.length, ∀ X : World, Below wr.heap.size wr X → Calls Try.prog 43 #[.int .i64 u, .pointer (some ⟨w.heap.size, 0, none⟩), .pointer (some ⟨w.heap.size + 1, 0, none⟩), .pointer (some ⟨w.heap.size + 1 + 1, 0, none⟩)] X fun e w' => e = .returned (vP (keyL ls b sh u)) ∧ Below X.heap.size X w' := by
        intro u hu X hX
        have hu' : u < ls.length := by simpa using hu
        have hge : ls.getD u [] = ls[u] := by simp [List.getD, hu']
        have hxs := hX.size
        obtain ⟨hs, h1, h2, h3⟩ := hls
        obtain ⟨A', c', h4, h5⟩ := h3 u ls[u] (List.getElem?_eq_getElem hu')
        obtain ⟨gl, lA, rfl, hgl, h6⟩ := h2.at h4
        have h7 := h6 0 _ rfl
        unfold keyL
        rw [hge]
        refine gro1_any u w.heap.size (w.heap.size + 1) (w.heap.size + 1 + 1) gl c' lA c b sh A' ls[u] ls.length X (boxed_below hbl hX (by omega)).cell hu' hc (by omega) ?_ ((h5.below (hX.mono hszr)).more (by omega)) (hll _ (List.getElem_mem hu')) (hft _ (List.getElem_mem hu')) (boxed_below hbb hX (by omega)).cell (boxed_below hbs hX (by omega)).cell (by omega) (by omega) (by omega) (by omega)
        rw [← (hX.cell (p := ⟨gl, lA + u * 1 + 0, none⟩) (by simp; omega))] at h7
        simpa using h7
      have hcon := gatI_any (some ⟨w.heap.size + 1 + 1 + 1, 0, none⟩) ls.length (keyL ls b sh) (List.range ls.length) w.heap.size (w.heap.size + 1) (w.heap.size + 1 + 1) wr hsl (by simp; omega) hkf hto
      rw [List.length_range] at hcon
      have HC := hide hcon
      have HF := hide hkf
      have HB := hide (And.intro hB hszr)
      clear hsl hbl hbb hbs hls hkf hto hcon hB hcs hcz hcv hz1
      go_wp2_with fail
      refine (unhide HC).mono ?_
      rintro e w2 ⟨rfl, hgr, hB2⟩
      have HCol := hide (collect_any wr.heap.size (keyL ls b sh) (List.range ls.length) w2 (by simp; omega) HF.out hgr)
      clear hgr
      go_wp2_with fail
      refine (unhide HCol).mono ?_
      rintro e w3 ⟨v, rfl, hp, hB3⟩
      go_wp2
      go_ret
      have hz1 := HZ.out
      have hb2 := hB2.size
      exact ⟨v, rfl, hp.base_le (by have := HB.out.2; omega), ((H1.out.1.trans (HB.out.1.mono (by omega))).trans (hB2.mono (by have := HB.out.2; omega))).trans (hB3.mono (by have := HB.out.2; omega))⟩
end Go.Proofs.Ytgndbpkgehjelaa
