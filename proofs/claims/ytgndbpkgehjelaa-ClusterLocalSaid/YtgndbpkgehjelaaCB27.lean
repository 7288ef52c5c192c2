/- Joined texts: Groups SanLaw San6 San. -/
import Derived.Deep.OwnRows
import Derived.Test.YtgndbpkgehjelaaCB9
import Derived.Test.YtgndbpkgehjelaaCB12
import Derived.Test.YtgndbpkgehjelaaCB24
import Derived.Test.YtgndbpkgehjelaaCB26
/- cluster.Groups. -/
namespace Go.Proofs.Ytgndbpkgehjelaa
open Go.RowKit Go.Sort Go.Shelf
/-- The slice at A reads as a list of lists of triangles. -/
abbrev Lst (w : World) (B : Nat) (A : Option Addr) (ls : List (List Tri)) : Prop := LstE encT 9 w B A ls
def keyL (ls : List (List Tri)) (b : Int) (sh : Bool) (k : Nat) : Pt := blockP (ls.getD k []) b sh
def groupsL (ls : List (List Tri)) (b : Int) (sh : Bool) : List (List Nat) := groupsT (keyL ls b sh) (List.range ls.length)
set_option maxRecDepth 100000 in
set_option maxHeartbeats 2000000 in
theorem groups_any (A : Option Addr) (c : Nat) (ls : List (List Tri)) (b : Int) (sh : Bool) (w : World) (hs : Lst w w.heap.size A ls) (hc : ls.length ≤ c) (hl : ls.length ≤ 1048576) (hll : ∀ p ∈ ls, p.length ≤ 4294967296) (hft : ∀ p ∈ ls, ∀ t ∈ p, fitsT t) :
    Calls Try.prog 25 #[.slice A ls.length c, .int .i64 b, .bool sh] w fun e w' => ∃ v, e = .returned v ∧ Pcs encI 1 3 31 w' w.heap.size v (groupsL ls b sh) ∧ Below w.heap.size w w' := by
  have hmk := fun (n : Nat) (h : 8 * n ≤ 281474976710656) => run_make_row' (P := Try.prog) 31 3 (.int .i64 0) 8 Try.underlying31 infoI rfl .i64 .i64 n h (by omega)
  have hmk' := hmk ls.length (by omega)
  clear hmk
  go_enter Try.func25, Try.ntmps25
  obtain ⟨W1, hW1⟩ : ∃ W1, W1 = ((w.alloc (.cells #[.slice A ls.length c] 28)).alloc (.cells #[.int .i64 b] 3)).alloc (.cells #[.bool sh] 4) := ⟨_, rfl⟩
  have hB1 : Below w.heap.size w W1 := by rw [hW1]; exact (((Below.refl _ w).alloc (Nat.le_refl _) _).alloc (by simp) _).alloc (by simp; omega) _
  have hsz1 : W1.heap.size = w.heap.size + 3 := by rw [hW1]; simp
  have hbl : Boxed W1 w.heap.size 28 (.slice A ls.length c) := by rw [hW1]; exact ((Boxed.new w _ _).alloc _).alloc _
  have hbb : Boxed W1 (w.heap.size + 1) 3 (.int .i64 b) := by
    rw [hW1]
    have h0 := Boxed.new (w.alloc (.cells #[.slice A ls.length c] 28)) 3 (.int .i64 b)
    rw [World.size_alloc] at h0
    exact h0.alloc _
  have hbs : Boxed W1 (w.heap.size + 1 + 1) 4 (.bool sh) := by
    rw [hW1]
    have h0 := Boxed.new ((w.alloc (.cells #[.slice A ls.length c] 28)).alloc (.cells #[.int .i64 b] 3)) 4 (.bool sh)
    rw [World.size_alloc, World.size_alloc] at h0
    exact h0
  have hs1 : Lst W1 W1.heap.size A ls := (LstE.below hs hB1).more (by omega)
  obtain ⟨n, hn⟩ : ∃ n, n = ls.length := ⟨_, rfl⟩
  have H1 := hide (And.intro hB1 (And.intro hbl (And.intro hbb (And.intro hbs (And.intro hs1 hn)))))
  have HW1 := hide hW1
  have HZ := hide hsz1
  clear hB1 hbl hbb hbs hs1 hs hW1 hsz1 hn
  go_wp2
  clear hmk'
  rw [← HW1.out]
  go_loopw [14] (fun i wr => ∃ k : Nat, k ≤ ls.length ∧ i = .int .i64 k ∧ Below W1.heap.size W1 wr ∧ ∃ cs : Array Value, Blk wr (w.heap.size + 1 + 1 + 1) 3 cs ∧ cs.size = ls.length ∧ ∀ i, i < k → cs[i]? = some (.int .i64 i)) (fun i _ => ls.length - (intOf i).toNat)
  case atStart =>
    refine ⟨0, Nat.zero_le _, rfl, (Below.refl _ W1).alloc (Nat.le_refl _) _, _, Blk.new' _ _ _ _ (by rw [HZ.out]), ?_, fun i hi => absurd hi (by omega)⟩
    simp [madeCells]
  case round =>
    obtain ⟨k, hk, rfl, hB, cs, hcs, hcz, hcv⟩ := hrel
    have hz1 := HZ.out
    by_cases hlt : k < ls.length
    · have hcell := hcs.cell k
      have hfr := hcs.frozen k
      obtain ⟨u0, hu0⟩ : ∃ u0, cs[k]? = some u0 := ⟨_, Array.getElem?_eq_getElem (by omega)⟩
      rw [hu0] at hcell
      clear hu0
      have i1 : (k : Int) < (ls.length : Int) := by omega
      have H := hide (And.intro hB (And.intro hcs (And.intro hcz hcv)))
      clear hB hcs hcz hcv hz1
      go_wp2
      go_roundw
      case rel =>
        refine ⟨k + 1, by omega, by go_num, H.out.1.setCell (by have := HZ.out; simp; omega) _, _, H.out.2.1.set_ k _, by simp [H.out.2.2.1], fun i hi => ?_⟩
        rw [Array.getElem?_setIfInBounds]
        by_cases hik : k = i
        · subst hik
          rw [if_pos rfl, if_pos (by have := H.out.2.2.1; omega)]
        · rw [if_neg hik]
          exact H.out.2.2.2 i (by omega)
      case measure => simp [intOf]; omega
    · have hke : k = ls.length := by omega
      have HK := hide hke
      have hszr := hB.size
      have hgs : w.heap.size + 1 + 1 + 1 < wr.heap.size := hcs.lt
      have hsl : Sl encI 1 wr wr.heap.size (some ⟨w.heap.size + 1 + 1 + 1, 0, none⟩) (List.range ls.length) := by
        refine .inr ⟨_, 0, rfl, hgs, fun i x hx j u hu => ?_⟩
        have hi : i < ls.length := by have := (List.getElem?_eq_some_iff.1 hx).1; simpa using this
        have hxi : x = i := by
          have := (List.getElem?_eq_some_iff.1 hx).2
          simpa using this.symm
        subst hxi
        have hj : j = 0 := by
          have := (List.getElem?_eq_some_iff.1 hu).1
          simp [encI] at this; exact this
        subst hj
        have := hcs.cell (0 + x * 1 + 0)
        rw [this]
        simp only [Nat.zero_add, Nat.mul_one, Nat.add_zero]
        rw [hcv x (by omega)]
        exact hu
      have hbl := boxed_below H1.out.2.1 hB (by omega)
      have hbb := boxed_below H1.out.2.2.1 hB (by omega)
      have hbs := boxed_below H1.out.2.2.2.1 hB (by omega)
      have hls := LstE.below H1.out.2.2.2.2.1 hB
      have hkf : ∀ t ∈ List.range ls.length, fitsP (keyL ls b sh t) := by
        intro t ht
        have ht' : t < ls.length := by simpa using ht
        have hge : ls.getD t [] = ls[t] := by simp [List.getD, ht']
        unfold keyL
        rw [hge]
        exact fitsP_block (hft _ (List.getElem_mem ht')) b sh
      have hto : ∀ u ∈ List.range ls.length, ∀ X : World, Below wr.heap.size wr X → Calls Try.prog 43 #[.int .i64 u, .pointer (some ⟨w.heap.size, 0, none⟩), .pointer (some ⟨w.heap.size + 1, 0, none⟩), .pointer (some ⟨w.heap.size + 1 + 1, 0, none⟩)] X fun e w' => e = .returned (vP (keyL ls b sh u)) ∧ Below X.heap.size X w' := by
        intro u hu X hX
        have hu' : u < ls.length := by simpa using hu
        have hge : ls.getD u [] = ls[u] := by simp [List.getD, hu']
        have hxs := hX.size
        obtain ⟨hs, h1, h2, h3⟩ := hls
        obtain ⟨A', c', h4, h5⟩ := h3 u ls[u] (List.getElem?_eq_getElem hu')
        obtain ⟨gl, lA, rfl, hgl, h6⟩ := h2.at h4
        have h7 := h6 0 _ rfl
        unfold keyL
        rw [hge]
        refine gro1_any u w.heap.size (w.heap.size + 1) (w.heap.size + 1 + 1) gl c' lA c b sh A' ls[u] ls.length X (boxed_below hbl hX (by omega)).cell hu' hc (by omega) ?_ ((h5.below (hX.mono hszr)).more (by omega)) (hll _ (List.getElem_mem hu')) (hft _ (List.getElem_mem hu')) (boxed_below hbb hX (by omega)).cell (boxed_below hbs hX (by omega)).cell (by omega) (by omega) (by omega) (by omega)
        rw [← (hX.cell (p := ⟨gl, lA + u * 1 + 0, none⟩) (by simp; omega))] at h7
        simpa using h7
      have hcon := gatI_any (some ⟨w.heap.size + 1 + 1 + 1, 0, none⟩) ls.length (keyL ls b sh) (List.range ls.length) w.heap.size (w.heap.size + 1) (w.heap.size + 1 + 1) wr hsl (by simp; omega) hkf hto
      rw [List.length_range] at hcon
      have HC := hide hcon
      have HF := hide hkf
      have HB := hide (And.intro hB hszr)
      clear hsl hbl hbb hbs hls hkf hto hcon hB hcs hcz hcv hz1
      go_wp2_with fail
      refine (unhide HC).mono ?_
      rintro e w2 ⟨rfl, hgr, hB2⟩
      have HCol := hide (collect_any wr.heap.size (keyL ls b sh) (List.range ls.length) w2 (by simp; omega) HF.out hgr)
      clear hgr
      go_wp2_with fail
      refine (unhide HCol).mono ?_
      rintro e w3 ⟨v, rfl, hp, hB3⟩
      go_wp2
      go_ret
      have hz1 := HZ.out
      have hb2 := hB2.size
      exact ⟨v, rfl, hp.base_le (by have := HB.out.2; omega), ((H1.out.1.trans (HB.out.1.mono (by omega))).trans (hB2.mono (by have := HB.out.2; omega))).trans (hB3.mono (by have := HB.out.2; omega))⟩
end Go.Proofs.Ytgndbpkgehjelaa
/- The examples of law13.sanity: plain facts. -/
namespace Go.Proofs.Ytgndbpkgehjelaa
open Go.RowKit Go.Sort Go.Shelf
def exT : Tri := ((5, 9, 1), (2, 12, 1), (6, 10, 3))
def exU : Tri := ((13, 9, 1), (10, 12, 1), (14, 10, 3))
def exR : Tri := ((2, 12, 1), (6, 10, 3), (5, 9, 1))
def exS : Tri := ((10, 12, 1), (14, 10, 3), (13, 9, 1))
theorem ex_moved : movT (8, 0, 0) exT = exU := by simp [movT, movN, movP, exT, exU, wrap64]
theorem ex_rotT : rotR exT = exR := by decide
theorem ex_rotU : rotR exU = exS := by decide
theorem ex_rot : rotT exT = exR ∧ rotT exU = exS := by decide
theorem ex_block : blockP [exT] 2 false = (0, 2, 0) ∧ blockP [exT] 2 true = (1, 2, 0) := by decide
theorem ex_lt : ltT exR exR = false ∧ ltT exS exS = false := by decide
theorem ex_canon5 : canonT [exT, exT, exT, exT, exT] = [exR, exR, exR, exR, exR] := by
  simp [canonT, sortT, ex_rot, List.mergeSort, List.MergeSort.Internal.splitInTwo, ex_lt]
theorem ex_canon3 : canonT [exT, exT, exT] = [exR, exR, exR] := by
  simp [canonT, sortT, ex_rot, List.mergeSort, List.MergeSort.Internal.splitInTwo, ex_lt]
theorem ex_canon1 : canonT [exU] = [exS] := by
  simp [canonT, sortT, ex_rot]
theorem ex_split : splitT 2 [exT, exT, exT, exT, exT] = [[exR, exR], [exR, exR], [exR]] := by
  unfold splitT
  rw [ex_canon5]
  decide
theorem ex_split3 : splitT 2 [exT, exT, exT] = [[exR, exR], [exR]] := by
  unfold splitT
  rw [ex_canon3]
  decide
theorem ex_split1 : splitT 2 [exU] = [[exS]] := by
  unfold splitT
  rw [ex_canon1]
  decide
theorem ex_sortP : sortP [(2, 2, 0), (0, 2, 0)] = [(0, 2, 0), (2, 2, 0)] := by
  simp [sortP, List.mergeSort, List.MergeSort.Internal.splitInTwo, ltP]
theorem ex_finest : finestT 2 2 [exU, exT, exT, exT] = [[exR, exR], [exR], [exS]] := by
  have h1 : keysOf (keyF 2) [exU, exT, exT, exT] = [(2, 2, 0), (0, 2, 0)] := by decide
  have h2 : grp (keyF 2) [exU, exT, exT, exT] (0, 2, 0) = [exT, exT, exT] := by decide
  have h3 : grp (keyF 2) [exU, exT, exT, exT] (2, 2, 0) = [exU] := by decide
  unfold finestT
  rw [h1, ex_sortP]
  simp only [List.flatMap_cons, List.flatMap_nil, h2, h3, ex_split3, ex_split1]
  rfl
theorem ex_sortP3 : sortP [(0, 2, 0), (2, 2, 0), (0, 0, 0)] = [(0, 0, 0), (0, 2, 0), (2, 2, 0)] := by
  simp [sortP, List.mergeSort, List.MergeSort.Internal.splitInTwo, ltP]
theorem ex_groups : groupsL [[exT], [exU], [exT, exU], []] 2 false = [[3], [0, 2], [1]] := by
  have h1 : keysOf (keyL [[exT], [exU], [exT, exU], []] 2 false) (List.range 4) = [(0, 2, 0), (2, 2, 0), (0, 0, 0)] := by decide
  unfold groupsL groupsT
  simp only [List.length_cons, List.length_nil, Nat.zero_add, Nat.reduceAdd]
  rw [h1, ex_sortP3]
  decide
theorem exT_fits : fitsT exT ∧ fitsT exU ∧ fitsT exR ∧ fitsT exS := by
  simp [fitsT, fitsP, fits, exT, exU, exR, exS]
theorem ex_fits4 : ∀ t ∈ [exU, exT, exT, exT], fitsT t := by
  simp only [List.mem_cons, List.not_mem_nil, or_false]
  rintro t (rfl | rfl | rfl | rfl)
  · exact exT_fits.2.1
  all_goals exact exT_fits.1
theorem ex_fitsG : ∀ p ∈ [[exT], [exU], [exT, exU], []], ∀ t ∈ p, fitsT t := by
  simp only [List.mem_cons, List.not_mem_nil, or_false]
  rintro p (rfl | rfl | rfl | rfl) t ht
  all_goals simp only [List.mem_cons, List.not_mem_nil, or_false] at ht
  · subst ht; exact exT_fits.1
  · subst ht; exact exT_fits.2.1
  · rcases ht with rfl | rfl
    · exact exT_fits.1
    · exact exT_fits.2.1
theorem ex_fitsR : ∀ p ∈ [[exR, exR], [exR], [exS]], ∀ t ∈ p, fitsT t := by
  simp only [List.mem_cons, List.not_mem_nil, or_false]
  rintro p (rfl | rfl | rfl) t ht
  all_goals simp only [List.mem_cons, List.not_mem_nil, or_false] at ht
  · rcases ht with rfl | rfl <;> exact exT_fits.2.2.1
  · subst ht; exact exT_fits.2.2.1
  · subst ht; exact exT_fits.2.2.2
end Go.Proofs.Ytgndbpkgehjelaa
/- law13.sanity's region 6: the answer. Its steps are printed by mk_San6.py. -/
namespace Go.Proofs.Ytgndbpkgehjelaa
open Go.RowKit Go.Sort Go.Shelf
def sanWd : List Word := [.tris [exT], .is (vP (0, 2, 0)), .is (vP (0, 2, 0)), .is (Value.bool true), .is (Value.bool true), .tris [exT], .is (vP (1, 2, 0)), .is (vP (1, 2, 0)), .is (Value.bool true), .is (Value.bool true), .is (Value.bool true), .is (vT exU), .is (vT exT), .is (vT exT), .is (vT exT), .tris [exU, exT, exT, exT], .lists [[exR, exR], [exR], [exS]], .is (vT exR), .is (vT exR), .tris [exR, exR], .is (vT exR), .tris [exR], .is (vT exS), .tris [exS], .lists [[exR, exR], [exR], [exS]], .is (Value.bool true), .is (Value.bool true), .is (Value.bool true), .tris [exT], .is (vT exU), .tris [exU], .is (vT exT), .is (vT exU), .tris [exT, exU], .lists [[exT], [exU], [exT, exU], []], .natls [[3], [0, 2], [1]], .nats [3], .nats [0, 2], .nats [1], .natls [[3], [0, 2], [1]], .is (Value.bool true), .is (Value.bool true), .is (Value.bool true), .lists [[exR, exR], [exR, exR], [exR]], .is (Value.int .i64 3), .is (Value.bool true), .is (Value.bool true), .is (Value.bool true), .lists [[exR, exR], [exR, exR], [exR]], .ptr [exR, exR], .len 2, .is (Value.int .i64 2), .is (Value.bool true), .is (Value.bool true), .is (Value.bool true), .lists [[exR, exR], [exR, exR], [exR]], .ptr [exR], .len 1, .is (Value.int .i64 1), .is (Value.bool true), .is (Value.bool true), .is (Value.bool true)]
noncomputable def sanOps : Array Oper := opsOf Try.f12 6
set_option maxRecDepth 100000 in
set_option maxHeartbeats 40000000 in
theorem san_r6 (ops : Array Oper) (hops : ops = sanOps) (Q : Exit → Act → World → Prop) (x0 x7 x8 x9 x10 x11 x12 x13 x14 x15 x16 x17 x18 x19 x20 x21 x22 x23 x24 x25 x26 x27 x28 x29 x30 x31 x32 x33 x34 x35 x36 x37 x38 x39 x40 x41 x42 x43 x44 x45 x46 x47 x48 x49 x50 x51 x52 x53 x54 x55 x56 x57 x58 x59 x60 x61 x62 x63 x64 x65 x66 x67 x68 x69 x70 x71 x72 x73 x74 x75 x76 x77 x78 x79 x80 x81 x82 x83 x84 x85 x86 x87 x88 x89 x90 : Value) (d : _) (W : World) (bt bu bl b4 b5 cr : Nat) (Ar : Option Addr)
    (H : Hid (Blk W.drew bt 26 (encT exT).toArray ∧ Blk W.drew bu 26 (encT exU).toArray ∧ Blk W.drew bl 26 (encT exT).toArray ∧ Blk W.drew b4 26 (encT exR).toArray ∧ Blk W.drew b5 26 (encT exS).toArray ∧ Word.met (.lists [[exR, exR], [exR, exR], [exR]]) (.slice Ar 3 cr) W.drew))
    (hend : ∀ (vals : Nat → Value) V, RB W.drew V → vals 61 = Value.bool true → Q .normal (actL [(0, 30), (1, 31), (2, 32), (3, 33), (4, 34), (5, 35), (6, 36), (7, 37), (8, 38), (9, 39), (10, 40), (11, 41), (12, 42), (13, 43), (14, 44), (15, 45), (16, 46), (17, 47), (18, 48), (19, 49), (20, 50), (21, 51), (22, 52), (23, 53), (24, 54), (25, 55), (26, 56), (27, 57), (28, 58), (29, 59), (30, 60), (31, 61), (32, 62), (33, 63), (34, 64), (35, 65), (36, 66), (37, 67), (38, 68), (39, 69), (40, 70), (41, 71), (42, 72), (43, 73), (44, 74), (45, 75), (46, 76), (47, 77), (48, 78), (49, 79), (50, 80), (51, 81), (52, 82), (53, 83), (54, 84), (55, 85), (56, 86), (57, 87), (58, 88), (59, 89), (60, 90), (61, 0)] { tmps := #[x0, .pointer (some ⟨bt, 0, none⟩), .pointer (some ⟨bu, 0, none⟩), .slice (some ⟨bl, 0, none⟩) 1 1, .pointer (some ⟨b4, 0, none⟩), .pointer (some ⟨b5, 0, none⟩), .slice Ar 3 cr, x7, x8, x9, x10, x11, x12, x13, x14, x15, x16, x17, x18, x19, x20, x21, x22, x23, x24, x25, x26, x27, x28, x29, x30, x31, x32, x33, x34, x35, x36, x37, x38, x39, x40, x41, x42, x43, x44, x45, x46, x47, x48, x49, x50, x51, x52, x53, x54, x55, x56, x57, x58, x59, x60, x61, x62, x63, x64, x65, x66, x67, x68, x69, x70, x71, x72, x73, x74, x75, x76, x77, x78, x79, x80, x81, x82, x83, x84, x85, x86, x87, x88, x89, x90], defers := d } vals) V) :
    (Code.region 6 ops true).wp Try.prog Q { tmps := #[x0, .pointer (some ⟨bt, 0, none⟩), .pointer (some ⟨bu, 0, none⟩), .slice (some ⟨bl, 0, none⟩) 1 1, .pointer (some ⟨b4, 0, none⟩), .pointer (some ⟨b5, 0, none⟩), .slice Ar 3 cr, x7, x8, x9, x10, x11, x12, x13, x14, x15, x16, x17, x18, x19, x20, x21, x22, x23, x24, x25, x26, x27, x28, x29, x30, x31, x32, x33, x34, x35, x36, x37, x38, x39, x40, x41, x42, x43, x44, x45, x46, x47, x48, x49, x50, x51, x52, x53, x54, x55, x56, x57, x58, x59, x60, x61, x62, x63, x64, x65, x66, x67, x68, x69, x70, x71, x72, x73, x74, x75, x76, x77, x78, x79, x80, x81, x82, x83, x84, x85, x86, x87, x88, x89, x90], defers := d } W := by
  subst hops
  unfold sanOps opsOf
  simp only [Try.f12, Option.bind_some, regOps, Nat.reduceEqDiff, if_true, if_false, Option.or_none, Option.none_or, Option.getD_some]
  refine wp_region_rely (rs := [0, 1, 2, 3, 4, 5, 6, 7, 8, 9, 10, 11, 12, 13, 14, 15, 16, 17, 18, 19, 20, 21, 22, 23, 24, 25, 26, 27, 28, 29, 30, 31, 32, 33, 34, 35, 36, 37, 38, 39, 40, 41, 42, 43, 44, 45, 46, 47, 48, 49, 50, 51, 52, 53, 54, 55, 56, 57, 58, 59, 60, 61]) (ms := [0, 1, 0, 7, 15, 31, 63, 31, 255, 511, 1023, 2047, 2047, 2047, 2047, 32767, 65535, 2047, 2047, 395263, 2047, 1050623, 2047, 4196351, 16648191, 33554431, 67108863, 134217727, 268435455, 268435455, 805306367, 268435455, 268435455, 6710886399, 17179869183, 34359738367, 268435455, 268435455, 268435455, 481304772607, 1099511627775, 2199023255551, 4398046511103, 8796093022207, 17592186044415, 35184372088831, 70368744177663, 140737488355327, 281474976710655, 562949953421311, 1125899906842623, 2251799813685247, 4503599627370495, 9007199254740991, 18014398509481983, 36028797018963967, 72057594037927935, 144115188075855871, 288230376151711743, 576460752303423487, 1152921504606846975, 2305843009213693951]) (ds := [(0, 30), (1, 31), (2, 32), (3, 33), (4, 34), (5, 35), (6, 36), (7, 37), (8, 38), (9, 39), (10, 40), (11, 41), (12, 42), (13, 43), (14, 44), (15, 45), (16, 46), (17, 47), (18, 48), (19, 49), (20, 50), (21, 51), (22, 52), (23, 53), (24, 54), (25, 55), (26, 56), (27, 57), (28, 58), (29, 59), (30, 60), (31, 61), (32, 62), (33, 63), (34, 64), (35, 65), (36, 66), (37, 67), (38, 68), (39, 69), (40, 70), (41, 71), (42, 72), (43, 73), (44, 74), (45, 75), (46, 76), (47, 77), (48, 78), (49, 79), (50, 80), (51, 81), (52, 82), (53, 83), (54, 84), (55, 85), (56, 86), (57, 87), (58, 88), (59, 89), (60, 90), (61, 0)]) (wordAt sanWd) RB mixed_ok (by kernel_rfl) RB.trans RB.refl (wordAt_keeps sanWd) (Steps.cons ?q0 (Steps.cons ?q1 (Steps.cons ?q2 (Steps.cons ?q3 (Steps.cons ?q4 (Steps.cons ?q5 (Steps.cons ?q6 (Steps.cons ?q7 (Steps.cons ?q8 (Steps.cons ?q9 (Steps.cons ?q10 (Steps.cons ?q11 (Steps.cons ?q12 (Steps.cons ?q13 (Steps.cons ?q14 (Steps.cons ?q15 (Steps.cons ?q16 (Steps.cons ?q17 (Steps.cons ?q18 (Steps.cons ?q19 (Steps.cons ?q20 (Steps.cons ?q21 (Steps.cons ?q22 (Steps.cons ?q23 (Steps.cons ?q24 (Steps.cons ?q25 (Steps.cons ?q26 (Steps.cons ?q27 (Steps.cons ?q28 (Steps.cons ?q29 (Steps.cons ?q30 (Steps.cons ?q31 (Steps.cons ?q32 (Steps.cons ?q33 (Steps.cons ?q34 (Steps.cons ?q35 (Steps.cons ?q36 (Steps.cons ?q37 (Steps.cons ?q38 (Steps.cons ?q39 (Steps.cons ?q40 (Steps.cons ?q41 (Steps.cons ?q42 (Steps.cons ?q43 (Steps.cons ?q44 (Steps.cons ?q45 (Steps.cons ?q46 (Steps.cons ?q47 (Steps.cons ?q48 (Steps.cons ?q49 (Steps.cons ?q50 (Steps.cons ?q51 (Steps.cons ?q52 (Steps.cons ?q53 (Steps.cons ?q54 (Steps.cons ?q55 (Steps.cons ?q56 (Steps.cons ?q57 (Steps.cons ?q58 (Steps.cons ?q59 (Steps.cons ?q60 (Steps.cons ?q61 Steps.nil)))))))))))))))))))))))))))))))))))))))))))))))))))))))))))))) ?e6
  case q0 =>
    intro vals V hR hL
    generalize hgo : wpOp Try.prog _ _ _ _ _ _ = G
    subst hgo
    refine wpOp_of_list (o := ?oI0) ?hoI0 ?hI0
    case hoI0 => exact Array.getElem?_eq_getElem (of_decide_eq_true (by kernel_rfl))
    rw [san_act6]
    go_wp2
    first
      | exact ⟨⟨_, 1, rfl, by decide, Sl.ofBlk encT_len (H.out.2.2.1.below hR H.out.2.2.1.lt) rfl⟩, RB.refl _⟩
      | exact ⟨by trivial, ⟨_, 1, rfl, by decide, Sl.ofBlk encT_len (H.out.2.2.1.below hR H.out.2.2.1.lt) rfl⟩, RB.refl _⟩
  case q1 =>
    intro vals V hR hL
    generalize hgo : wpOp Try.prog _ _ _ _ _ _ = G
    have h0 : ∃ A c, vals 0 = .slice A ([exT] : List Tri).length c ∧ ([exT] : List Tri).length ≤ c ∧ Sl encT 9 V V.heap.size A ([exT] : List Tri) := hL 0 rfl
    refine Exists.elim h0 fun A0 gA0 => ?_
    refine Exists.elim gA0 fun c0 gc0 => ?_
    have d0 := gc0.1
    have l0 := gc0.2.1
    have s0 := gc0.2.2
    subst hgo
    refine wpOp_of_list (o := ?oI1) ?hoI1 ?hI1
    case hoI1 => exact Array.getElem?_eq_getElem (of_decide_eq_true (by kernel_rfl))
    rw [san_act6]
    simp only [d0]
    go_wp2_with fail
    refine (Block_any A0 c0 [exT] 2 false V s0 (by decide) (by simp [anc, ancT, ancN, ancP, corner, exT, fits])).mono ?_
    rintro e w' ⟨rfl, hB'⟩
    rw [ex_block.1]
    go_wp2
    first
      | exact ⟨rfl, hB'⟩
      | exact ⟨by trivial, rfl, hB'⟩
  case q2 =>
    intro vals V hR hL
    generalize hgo : wpOp Try.prog _ _ _ _ _ _ = G
    subst hgo
    refine wpOp_of_list (o := ?oI2) ?hoI2 ?hI2
    case hoI2 => exact Array.getElem?_eq_getElem (of_decide_eq_true (by kernel_rfl))
    rw [san_act6]
    go_wp2
    first
      | exact ⟨rfl, RB.refl _⟩
      | exact ⟨by trivial, rfl, RB.refl _⟩
  case q3 =>
    intro vals V hR hL
    generalize hgo : wpOp Try.prog _ _ _ _ _ _ = G
    have d1 : vals 1 = vP (0, 2, 0) := hL 1 rfl
    have d2 : vals 2 = vP (0, 2, 0) := hL 2 rfl
    have hq : (Op.equalIn 10000 23 (vP (0, 2, 0)) (vP (0, 2, 0))).run Try.prog V = .ok true V := by rw [eqP (0, 2, 0) (0, 2, 0) (by simp [fitsP, fits]) (by simp [fitsP, fits])]; rfl
    subst hgo
    refine wpOp_of_list (o := ?oI3) ?hoI3 ?hI3
    case hoI3 => exact Array.getElem?_eq_getElem (of_decide_eq_true (by kernel_rfl))
    rw [san_act6]
    simp only [d1, d2]
    go_wp2
    first
      | exact ⟨rfl, RB.refl _⟩
      | exact ⟨by trivial, rfl, RB.refl _⟩
  case q4 =>
    intro vals V hR hL
    generalize hgo : wpOp Try.prog _ _ _ _ _ _ = G
    have d3 : vals 3 = Value.bool true := hL 3 rfl
    subst hgo
    refine wpOp_of_list (o := ?oI4) ?hoI4 ?hI4
    case hoI4 => exact Array.getElem?_eq_getElem (of_decide_eq_true (by kernel_rfl))
    rw [san_act6]
    simp only [d3]
    go_wp2
    first
      | exact ⟨rfl, RB.refl _⟩
      | exact ⟨by trivial, rfl, RB.refl _⟩
  case q5 =>
    intro vals V hR hL
    generalize hgo : wpOp Try.prog _ _ _ _ _ _ = G
    have d4 : vals 4 = Value.bool true := hL 4 rfl
    subst hgo
    refine wpOp_of_list_g (o := ?oI5) (g := 4) (d := 34) ?hoI5 ?hgI5 ?hdI5 ?htI5 ?hI5
    case hoI5 => exact Array.getElem?_eq_getElem (of_decide_eq_true (by kernel_rfl))
    case hgI5 => kernel_rfl
    case hdI5 => kernel_rfl
    case htI5 => rw [san_act6]; simp only [d4]; kernel_rfl
    rw [san_act6]
    simp only [List.getElem_toArray, List.getElem_cons_succ, List.getElem_cons_zero]
    simp only [d4]
    go_wp2
    first
      | exact ⟨⟨_, 1, rfl, by decide, Sl.ofBlk encT_len (H.out.2.2.1.below hR H.out.2.2.1.lt) rfl⟩, RB.refl _⟩
      | exact ⟨by trivial, ⟨_, 1, rfl, by decide, Sl.ofBlk encT_len (H.out.2.2.1.below hR H.out.2.2.1.lt) rfl⟩, RB.refl _⟩
  case q6 =>
    intro vals V hR hL
    generalize hgo : wpOp Try.prog _ _ _ _ _ _ = G
    have d4 : vals 4 = Value.bool true := hL 4 rfl
    have h5 : ∃ A c, vals 5 = .slice A ([exT] : List Tri).length c ∧ ([exT] : List Tri).length ≤ c ∧ Sl encT 9 V V.heap.size A ([exT] : List Tri) := hL 5 rfl
    refine Exists.elim h5 fun A5 gA5 => ?_
    refine Exists.elim gA5 fun c5 gc5 => ?_
    have d5 := gc5.1
    have l5 := gc5.2.1
    have s5 := gc5.2.2
    subst hgo
    refine wpOp_of_list_g (o := ?oI6) (g := 4) (d := 34) ?hoI6 ?hgI6 ?hdI6 ?htI6 ?hI6
    case hoI6 => exact Array.getElem?_eq_getElem (of_decide_eq_true (by kernel_rfl))
    case hgI6 => kernel_rfl
    case hdI6 => kernel_rfl
    case htI6 => rw [san_act6]; simp only [d4]; kernel_rfl
    rw [san_act6]
    simp only [List.getElem_toArray, List.getElem_cons_succ, List.getElem_cons_zero]
    simp only [d4, d5]
    go_wp2_with fail
    refine (Block_any A5 c5 [exT] 2 true V s5 (by decide) (by simp [anc, ancT, ancN, ancP, corner, exT, fits])).mono ?_
    rintro e w' ⟨rfl, hB'⟩
    rw [ex_block.2]
    go_wp2
    first
      | exact ⟨rfl, hB'⟩
      | exact ⟨by trivial, rfl, hB'⟩
  case q7 =>
    intro vals V hR hL
    generalize hgo : wpOp Try.prog _ _ _ _ _ _ = G
    have d4 : vals 4 = Value.bool true := hL 4 rfl
    subst hgo
    refine wpOp_of_list_g (o := ?oI7) (g := 4) (d := 34) ?hoI7 ?hgI7 ?hdI7 ?htI7 ?hI7
    case hoI7 => exact Array.getElem?_eq_getElem (of_decide_eq_true (by kernel_rfl))
    case hgI7 => kernel_rfl
    case hdI7 => kernel_rfl
    case htI7 => rw [san_act6]; simp only [d4]; kernel_rfl
    rw [san_act6]
    simp only [List.getElem_toArray, List.getElem_cons_succ, List.getElem_cons_zero]
    simp only [d4]
    go_wp2
    first
      | exact ⟨rfl, RB.refl _⟩
      | exact ⟨by trivial, rfl, RB.refl _⟩
  case q8 =>
    intro vals V hR hL
    generalize hgo : wpOp Try.prog _ _ _ _ _ _ = G
    have d4 : vals 4 = Value.bool true := hL 4 rfl
    have d6 : vals 6 = vP (1, 2, 0) := hL 6 rfl
    have d7 : vals 7 = vP (1, 2, 0) := hL 7 rfl
    have hq : (Op.equalIn 10000 23 (vP (1, 2, 0)) (vP (1, 2, 0))).run Try.prog V = .ok true V := by rw [eqP (1, 2, 0) (1, 2, 0) (by simp [fitsP, fits]) (by simp [fitsP, fits])]; rfl
    subst hgo
    refine wpOp_of_list_g (o := ?oI8) (g := 4) (d := 34) ?hoI8 ?hgI8 ?hdI8 ?htI8 ?hI8
    case hoI8 => exact Array.getElem?_eq_getElem (of_decide_eq_true (by kernel_rfl))
    case hgI8 => kernel_rfl
    case hdI8 => kernel_rfl
    case htI8 => rw [san_act6]; simp only [d4]; kernel_rfl
    rw [san_act6]
    simp only [List.getElem_toArray, List.getElem_cons_succ, List.getElem_cons_zero]
    simp only [d4, d6, d7]
    go_wp2
    first
      | exact ⟨rfl, RB.refl _⟩
      | exact ⟨by trivial, rfl, RB.refl _⟩
  case q9 =>
    intro vals V hR hL
    generalize hgo : wpOp Try.prog _ _ _ _ _ _ = G
    have d4 : vals 4 = Value.bool true := hL 4 rfl
    have d8 : vals 8 = Value.bool true := hL 8 rfl
    subst hgo
    refine wpOp_of_list (o := ?oI9) ?hoI9 ?hI9
    case hoI9 => exact Array.getElem?_eq_getElem (of_decide_eq_true (by kernel_rfl))
    rw [san_act6]
    simp only [d4, d8]
    go_wp2
    first
      | exact ⟨rfl, RB.refl _⟩
      | exact ⟨by trivial, rfl, RB.refl _⟩
  case q10 =>
    intro vals V hR hL
    generalize hgo : wpOp Try.prog _ _ _ _ _ _ = G
    have d9 : vals 9 = Value.bool true := hL 9 rfl
    subst hgo
    refine wpOp_of_list (o := ?oI10) ?hoI10 ?hI10
    case hoI10 => exact Array.getElem?_eq_getElem (of_decide_eq_true (by kernel_rfl))
    rw [san_act6]
    simp only [d9]
    go_wp2
    first
      | exact ⟨rfl, RB.refl _⟩
      | exact ⟨by trivial, rfl, RB.refl _⟩
  case q11 =>
    intro vals V hR hL
    generalize hgo : wpOp Try.prog _ _ _ _ _ _ = G
    have d10 : vals 10 = Value.bool true := hL 10 rfl
    have C := cells9z (H.out.2.1.below hR H.out.2.1.lt)
    have t0 := C.1
    have t1 := C.2.1
    have t2 := C.2.2.1
    have t3 := C.2.2.2.1
    have t4 := C.2.2.2.2.1
    have t5 := C.2.2.2.2.2.1
    have t6 := C.2.2.2.2.2.2.1
    have t7 := C.2.2.2.2.2.2.2.1
    have t8 := C.2.2.2.2.2.2.2.2
    clear C
    subst hgo
    refine wpOp_of_list_g (o := ?oI11) (g := 10) (d := 40) ?hoI11 ?hgI11 ?hdI11 ?htI11 ?hI11
    case hoI11 => exact Array.getElem?_eq_getElem (of_decide_eq_true (by kernel_rfl))
    case hgI11 => kernel_rfl
    case hdI11 => kernel_rfl
    case htI11 => rw [san_act6]; simp only [d10]; kernel_rfl
    rw [san_act6]
    simp only [List.getElem_toArray, List.getElem_cons_succ, List.getElem_cons_zero]
    simp only [d10]
    go_wp2
    first
      | exact ⟨rfl, RB.refl _⟩
      | exact ⟨by trivial, rfl, RB.refl _⟩
  case q12 =>
    intro vals V hR hL
    generalize hgo : wpOp Try.prog _ _ _ _ _ _ = G
    have d10 : vals 10 = Value.bool true := hL 10 rfl
    have C := cells9z (H.out.1.below hR H.out.1.lt)
    have t0 := C.1
    have t1 := C.2.1
    have t2 := C.2.2.1
    have t3 := C.2.2.2.1
    have t4 := C.2.2.2.2.1
    have t5 := C.2.2.2.2.2.1
    have t6 := C.2.2.2.2.2.2.1
    have t7 := C.2.2.2.2.2.2.2.1
    have t8 := C.2.2.2.2.2.2.2.2
    clear C
    subst hgo
    refine wpOp_of_list_g (o := ?oI12) (g := 10) (d := 40) ?hoI12 ?hgI12 ?hdI12 ?htI12 ?hI12
    case hoI12 => exact Array.getElem?_eq_getElem (of_decide_eq_true (by kernel_rfl))
    case hgI12 => kernel_rfl
    case hdI12 => kernel_rfl
    case htI12 => rw [san_act6]; simp only [d10]; kernel_rfl
    rw [san_act6]
    simp only [List.getElem_toArray, List.getElem_cons_succ, List.getElem_cons_zero]
    simp only [d10]
    go_wp2
    first
      | exact ⟨rfl, RB.refl _⟩
      | exact ⟨by trivial, rfl, RB.refl _⟩
  case q13 =>
    intro vals V hR hL
    generalize hgo : wpOp Try.prog _ _ _ _ _ _ = G
    have d10 : vals 10 = Value.bool true := hL 10 rfl
    have C := cells9z (H.out.1.below hR H.out.1.lt)
    have t0 := C.1
    have t1 := C.2.1
    have t2 := C.2.2.1
    have t3 := C.2.2.2.1
    have t4 := C.2.2.2.2.1
    have t5 := C.2.2.2.2.2.1
    have t6 := C.2.2.2.2.2.2.1
    have t7 := C.2.2.2.2.2.2.2.1
    have t8 := C.2.2.2.2.2.2.2.2
    clear C
    subst hgo
    refine wpOp_of_list_g (o := ?oI13) (g := 10) (d := 40) ?hoI13 ?hgI13 ?hdI13 ?htI13 ?hI13
    case hoI13 => exact Array.getElem?_eq_getElem (of_decide_eq_true (by kernel_rfl))
    case hgI13 => kernel_rfl
    case hdI13 => kernel_rfl
    case htI13 => rw [san_act6]; simp only [d10]; kernel_rfl
    rw [san_act6]
    simp only [List.getElem_toArray, List.getElem_cons_succ, List.getElem_cons_zero]
    simp only [d10]
    go_wp2
    first
      | exact ⟨rfl, RB.refl _⟩
      | exact ⟨by trivial, rfl, RB.refl _⟩
  case q14 =>
    intro vals V hR hL
    generalize hgo : wpOp Try.prog _ _ _ _ _ _ = G
    have d10 : vals 10 = Value.bool true := hL 10 rfl
    have C := cells9z (H.out.1.below hR H.out.1.lt)
    have t0 := C.1
    have t1 := C.2.1
    have t2 := C.2.2.1
    have t3 := C.2.2.2.1
    have t4 := C.2.2.2.2.1
    have t5 := C.2.2.2.2.2.1
    have t6 := C.2.2.2.2.2.2.1
    have t7 := C.2.2.2.2.2.2.2.1
    have t8 := C.2.2.2.2.2.2.2.2
    clear C
    subst hgo
    refine wpOp_of_list_g (o := ?oI14) (g := 10) (d := 40) ?hoI14 ?hgI14 ?hdI14 ?htI14 ?hI14
    case hoI14 => exact Array.getElem?_eq_getElem (of_decide_eq_true (by kernel_rfl))
    case hgI14 => kernel_rfl
    case hdI14 => kernel_rfl
    case htI14 => rw [san_act6]; simp only [d10]; kernel_rfl
    rw [san_act6]
    simp only [List.getElem_toArray, List.getElem_cons_succ, List.getElem_cons_zero]
    simp only [d10]
    go_wp2
    first
      | exact ⟨rfl, RB.refl _⟩
      | exact ⟨by trivial, rfl, RB.refl _⟩
  case q15 =>
    intro vals V hR hL
    generalize hgo : wpOp Try.prog _ _ _ _ _ _ = G
    have d10 : vals 10 = Value.bool true := hL 10 rfl
    have d11 : vals 11 = vT exU := hL 11 rfl
    have d12 : vals 12 = vT exT := hL 12 rfl
    have d13 : vals 13 = vT exT := hL 13 rfl
    have d14 : vals 14 = vT exT := hL 14 rfl
    subst hgo
    refine wpOp_of_list_g (o := ?oI15) (g := 10) (d := 40) ?hoI15 ?hgI15 ?hdI15 ?htI15 ?hI15
    case hoI15 => exact Array.getElem?_eq_getElem (of_decide_eq_true (by kernel_rfl))
    case hgI15 => kernel_rfl
    case hdI15 => kernel_rfl
    case htI15 => rw [san_act6]; simp only [d10]; kernel_rfl
    rw [san_act6]
    simp only [List.getElem_toArray, List.getElem_cons_succ, List.getElem_cons_zero]
    simp only [d10, d11, d12, d13, d14]
    go_wp2
    first
      | exact ⟨⟨_, 4, rfl, by decide, Sl.ofBlk encT_len (Blk.new _ _ _) rfl⟩, RB.alloc _ _⟩
      | exact ⟨by trivial, ⟨_, 4, rfl, by decide, Sl.ofBlk encT_len (Blk.new _ _ _) rfl⟩, RB.alloc _ _⟩
  case q16 =>
    intro vals V hR hL
    generalize hgo : wpOp Try.prog _ _ _ _ _ _ = G
    have d10 : vals 10 = Value.bool true := hL 10 rfl
    have h15 : ∃ A c, vals 15 = .slice A ([exU, exT, exT, exT] : List Tri).length c ∧ ([exU, exT, exT, exT] : List Tri).length ≤ c ∧ Sl encT 9 V V.heap.size A ([exU, exT, exT, exT] : List Tri) := hL 15 rfl
    refine Exists.elim h15 fun A15 gA15 => ?_
    refine Exists.elim gA15 fun c15 gc15 => ?_
    have d15 := gc15.1
    have l15 := gc15.2.1
    have s15 := gc15.2.2
    subst hgo
    refine wpOp_of_list_g (o := ?oI16) (g := 10) (d := 40) ?hoI16 ?hgI16 ?hdI16 ?htI16 ?hI16
    case hoI16 => exact Array.getElem?_eq_getElem (of_decide_eq_true (by kernel_rfl))
    case hgI16 => kernel_rfl
    case hdI16 => kernel_rfl
    case htI16 => rw [san_act6]; simp only [d10]; kernel_rfl
    rw [san_act6]
    simp only [List.getElem_toArray, List.getElem_cons_succ, List.getElem_cons_zero]
    simp only [d10, d15]
    go_wp2_with fail
    refine (finest_any A15 c15 2 2 [exU, exT, exT, exT] V s15 (by decide) ex_fits4 (by decide)).mono ?_
    rintro e w' ⟨v, rfl, hp, hB'⟩
    rw [ex_finest] at hp
    refine Exists.elim (hp.lst encT_len) fun Ar k1 => ?_
    refine Exists.elim k1 fun cr k2 => ?_
    have e1 := k2.1
    subst e1
    have HW := hide k2.2
    clear hp k1 k2
    go_wp2
    first
      | exact ⟨⟨_, _, rfl, HW.out.1, HW.out.2⟩, hB'⟩
      | exact ⟨by trivial, ⟨_, _, rfl, HW.out.1, HW.out.2⟩, hB'⟩
  case q17 =>
    intro vals V hR hL
    generalize hgo : wpOp Try.prog _ _ _ _ _ _ = G
    have d10 : vals 10 = Value.bool true := hL 10 rfl
    have C := cells9z (H.out.2.2.2.1.below hR H.out.2.2.2.1.lt)
    have t0 := C.1
    have t1 := C.2.1
    have t2 := C.2.2.1
    have t3 := C.2.2.2.1
    have t4 := C.2.2.2.2.1
    have t5 := C.2.2.2.2.2.1
    have t6 := C.2.2.2.2.2.2.1
    have t7 := C.2.2.2.2.2.2.2.1
    have t8 := C.2.2.2.2.2.2.2.2
    clear C
    subst hgo
    refine wpOp_of_list_g (o := ?oI17) (g := 10) (d := 40) ?hoI17 ?hgI17 ?hdI17 ?htI17 ?hI17
    case hoI17 => exact Array.getElem?_eq_getElem (of_decide_eq_true (by kernel_rfl))
    case hgI17 => kernel_rfl
    case hdI17 => kernel_rfl
    case htI17 => rw [san_act6]; simp only [d10]; kernel_rfl
    rw [san_act6]
    simp only [List.getElem_toArray, List.getElem_cons_succ, List.getElem_cons_zero]
    simp only [d10]
    go_wp2
    first
      | exact ⟨rfl, RB.refl _⟩
      | exact ⟨by trivial, rfl, RB.refl _⟩
  case q18 =>
    intro vals V hR hL
    generalize hgo : wpOp Try.prog _ _ _ _ _ _ = G
    have d10 : vals 10 = Value.bool true := hL 10 rfl
    have C := cells9z (H.out.2.2.2.1.below hR H.out.2.2.2.1.lt)
    have t0 := C.1
    have t1 := C.2.1
    have t2 := C.2.2.1
    have t3 := C.2.2.2.1
    have t4 := C.2.2.2.2.1
    have t5 := C.2.2.2.2.2.1
    have t6 := C.2.2.2.2.2.2.1
    have t7 := C.2.2.2.2.2.2.2.1
    have t8 := C.2.2.2.2.2.2.2.2
    clear C
    subst hgo
    refine wpOp_of_list_g (o := ?oI18) (g := 10) (d := 40) ?hoI18 ?hgI18 ?hdI18 ?htI18 ?hI18
    case hoI18 => exact Array.getElem?_eq_getElem (of_decide_eq_true (by kernel_rfl))
    case hgI18 => kernel_rfl
    case hdI18 => kernel_rfl
    case htI18 => rw [san_act6]; simp only [d10]; kernel_rfl
    rw [san_act6]
    simp only [List.getElem_toArray, List.getElem_cons_succ, List.getElem_cons_zero]
    simp only [d10]
    go_wp2
    first
      | exact ⟨rfl, RB.refl _⟩
      | exact ⟨by trivial, rfl, RB.refl _⟩
  case q19 =>
    intro vals V hR hL
    generalize hgo : wpOp Try.prog _ _ _ _ _ _ = G
    have d10 : vals 10 = Value.bool true := hL 10 rfl
    have d17 : vals 17 = vT exR := hL 17 rfl
    have d18 : vals 18 = vT exR := hL 18 rfl
    subst hgo
    refine wpOp_of_list_g (o := ?oI19) (g := 10) (d := 40) ?hoI19 ?hgI19 ?hdI19 ?htI19 ?hI19
    case hoI19 => exact Array.getElem?_eq_getElem (of_decide_eq_true (by kernel_rfl))
    case hgI19 => kernel_rfl
    case hdI19 => kernel_rfl
    case htI19 => rw [san_act6]; simp only [d10]; kernel_rfl
    rw [san_act6]
    simp only [List.getElem_toArray, List.getElem_cons_succ, List.getElem_cons_zero]
    simp only [d10, d17, d18]
    go_wp2
    first
      | exact ⟨⟨_, 2, rfl, by decide, Sl.ofBlk encT_len (Blk.new _ _ _) rfl⟩, RB.alloc _ _⟩
      | exact ⟨by trivial, ⟨_, 2, rfl, by decide, Sl.ofBlk encT_len (Blk.new _ _ _) rfl⟩, RB.alloc _ _⟩
  case q20 =>
    intro vals V hR hL
    generalize hgo : wpOp Try.prog _ _ _ _ _ _ = G
    have d10 : vals 10 = Value.bool true := hL 10 rfl
    have C := cells9z (H.out.2.2.2.1.below hR H.out.2.2.2.1.lt)
    have t0 := C.1
    have t1 := C.2.1
    have t2 := C.2.2.1
    have t3 := C.2.2.2.1
    have t4 := C.2.2.2.2.1
    have t5 := C.2.2.2.2.2.1
    have t6 := C.2.2.2.2.2.2.1
    have t7 := C.2.2.2.2.2.2.2.1
    have t8 := C.2.2.2.2.2.2.2.2
    clear C
    subst hgo
    refine wpOp_of_list_g (o := ?oI20) (g := 10) (d := 40) ?hoI20 ?hgI20 ?hdI20 ?htI20 ?hI20
    case hoI20 => exact Array.getElem?_eq_getElem (of_decide_eq_true (by kernel_rfl))
    case hgI20 => kernel_rfl
    case hdI20 => kernel_rfl
    case htI20 => rw [san_act6]; simp only [d10]; kernel_rfl
    rw [san_act6]
    simp only [List.getElem_toArray, List.getElem_cons_succ, List.getElem_cons_zero]
    simp only [d10]
    go_wp2
    first
      | exact ⟨rfl, RB.refl _⟩
      | exact ⟨by trivial, rfl, RB.refl _⟩
  case q21 =>
    intro vals V hR hL
    generalize hgo : wpOp Try.prog _ _ _ _ _ _ = G
    have d10 : vals 10 = Value.bool true := hL 10 rfl
    have d20 : vals 20 = vT exR := hL 20 rfl
    subst hgo
    refine wpOp_of_list_g (o := ?oI21) (g := 10) (d := 40) ?hoI21 ?hgI21 ?hdI21 ?htI21 ?hI21
    case hoI21 => exact Array.getElem?_eq_getElem (of_decide_eq_true (by kernel_rfl))
    case hgI21 => kernel_rfl
    case hdI21 => kernel_rfl
    case htI21 => rw [san_act6]; simp only [d10]; kernel_rfl
    rw [san_act6]
    simp only [List.getElem_toArray, List.getElem_cons_succ, List.getElem_cons_zero]
    simp only [d10, d20]
    go_wp2
    first
      | exact ⟨⟨_, 1, rfl, by decide, Sl.ofBlk encT_len (Blk.new _ _ _) rfl⟩, RB.alloc _ _⟩
      | exact ⟨by trivial, ⟨_, 1, rfl, by decide, Sl.ofBlk encT_len (Blk.new _ _ _) rfl⟩, RB.alloc _ _⟩
  case q22 =>
    intro vals V hR hL
    generalize hgo : wpOp Try.prog _ _ _ _ _ _ = G
    have d10 : vals 10 = Value.bool true := hL 10 rfl
    have C := cells9z (H.out.2.2.2.2.1.below hR H.out.2.2.2.2.1.lt)
    have t0 := C.1
    have t1 := C.2.1
    have t2 := C.2.2.1
    have t3 := C.2.2.2.1
    have t4 := C.2.2.2.2.1
    have t5 := C.2.2.2.2.2.1
    have t6 := C.2.2.2.2.2.2.1
    have t7 := C.2.2.2.2.2.2.2.1
    have t8 := C.2.2.2.2.2.2.2.2
    clear C
    subst hgo
    refine wpOp_of_list_g (o := ?oI22) (g := 10) (d := 40) ?hoI22 ?hgI22 ?hdI22 ?htI22 ?hI22
    case hoI22 => exact Array.getElem?_eq_getElem (of_decide_eq_true (by kernel_rfl))
    case hgI22 => kernel_rfl
    case hdI22 => kernel_rfl
    case htI22 => rw [san_act6]; simp only [d10]; kernel_rfl
    rw [san_act6]
    simp only [List.getElem_toArray, List.getElem_cons_succ, List.getElem_cons_zero]
    simp only [d10]
    go_wp2
    first
      | exact ⟨rfl, RB.refl _⟩
      | exact ⟨by trivial, rfl, RB.refl _⟩
  case q23 =>
    intro vals V hR hL
    generalize hgo : wpOp Try.prog _ _ _ _ _ _ = G
    have d10 : vals 10 = Value.bool true := hL 10 rfl
    have d22 : vals 22 = vT exS := hL 22 rfl
    subst hgo
    refine wpOp_of_list_g (o := ?oI23) (g := 10) (d := 40) ?hoI23 ?hgI23 ?hdI23 ?htI23 ?hI23
    case hoI23 => exact Array.getElem?_eq_getElem (of_decide_eq_true (by kernel_rfl))
    case hgI23 => kernel_rfl
    case hdI23 => kernel_rfl
    case htI23 => rw [san_act6]; simp only [d10]; kernel_rfl
    rw [san_act6]
    simp only [List.getElem_toArray, List.getElem_cons_succ, List.getElem_cons_zero]
    simp only [d10, d22]
    go_wp2
    first
      | exact ⟨⟨_, 1, rfl, by decide, Sl.ofBlk encT_len (Blk.new _ _ _) rfl⟩, RB.alloc _ _⟩
      | exact ⟨by trivial, ⟨_, 1, rfl, by decide, Sl.ofBlk encT_len (Blk.new _ _ _) rfl⟩, RB.alloc _ _⟩
  case q24 =>
    intro vals V hR hL
    generalize hgo : wpOp Try.prog _ _ _ _ _ _ = G
    have d10 : vals 10 = Value.bool true := hL 10 rfl
    have h19 : ∃ A c, vals 19 = .slice A ([exR, exR] : List Tri).length c ∧ ([exR, exR] : List Tri).length ≤ c ∧ Sl encT 9 V V.heap.size A ([exR, exR] : List Tri) := hL 19 rfl
    refine Exists.elim h19 fun A19 gA19 => ?_
    refine Exists.elim gA19 fun c19 gc19 => ?_
    have d19 := gc19.1
    have l19 := gc19.2.1
    have s19 := gc19.2.2
    have h21 : ∃ A c, vals 21 = .slice A ([exR] : List Tri).length c ∧ ([exR] : List Tri).length ≤ c ∧ Sl encT 9 V V.heap.size A ([exR] : List Tri) := hL 21 rfl
    refine Exists.elim h21 fun A21 gA21 => ?_
    refine Exists.elim gA21 fun c21 gc21 => ?_
    have d21 := gc21.1
    have l21 := gc21.2.1
    have s21 := gc21.2.2
    have h23 : ∃ A c, vals 23 = .slice A ([exS] : List Tri).length c ∧ ([exS] : List Tri).length ≤ c ∧ Sl encT 9 V V.heap.size A ([exS] : List Tri) := hL 23 rfl
    refine Exists.elim h23 fun A23 gA23 => ?_
    refine Exists.elim gA23 fun c23 gc23 => ?_
    have d23 := gc23.1
    have l23 := gc23.2.1
    have s23 := gc23.2.2
    subst hgo
    refine wpOp_of_list_g (o := ?oI24) (g := 10) (d := 40) ?hoI24 ?hgI24 ?hdI24 ?htI24 ?hI24
    case hoI24 => exact Array.getElem?_eq_getElem (of_decide_eq_true (by kernel_rfl))
    case hgI24 => kernel_rfl
    case hdI24 => kernel_rfl
    case htI24 => rw [san_act6]; simp only [d10]; kernel_rfl
    rw [san_act6]
    simp only [List.getElem_toArray, List.getElem_cons_succ, List.getElem_cons_zero]
    simp only [d10, d19, d21, d23]
    go_wp2
    first
      | exact ⟨⟨_, 3, rfl, by decide, LstE.ofBlk (hs := [(A19, 2, c19), (A21, 1, c21), (A23, 1, c23)]) rfl (Blk.new _ _ _) rfl ⟨rfl, ((s19.below (RB.alloc V _)).more (by simp)), rfl, ((s21.below (RB.alloc V _)).more (by simp)), rfl, ((s23.below (RB.alloc V _)).more (by simp)), trivial⟩⟩, RB.alloc _ _⟩
      | exact ⟨by trivial, ⟨_, 3, rfl, by decide, LstE.ofBlk (hs := [(A19, 2, c19), (A21, 1, c21), (A23, 1, c23)]) rfl (Blk.new _ _ _) rfl ⟨rfl, ((s19.below (RB.alloc V _)).more (by simp)), rfl, ((s21.below (RB.alloc V _)).more (by simp)), rfl, ((s23.below (RB.alloc V _)).more (by simp)), trivial⟩⟩, RB.alloc _ _⟩
  case q25 =>
    intro vals V hR hL
    generalize hgo : wpOp Try.prog _ _ _ _ _ _ = G
    have d10 : vals 10 = Value.bool true := hL 10 rfl
    have h16 : ∃ A c, vals 16 = .slice A ([[exR, exR], [exR], [exS]] : List (List Tri)).length c ∧ ([[exR, exR], [exR], [exS]] : List (List Tri)).length ≤ c ∧ LstE encT 9 V V.heap.size A ([[exR, exR], [exR], [exS]] : List (List Tri)) := hL 16 rfl
    refine Exists.elim h16 fun A16 gA16 => ?_
    refine Exists.elim gA16 fun c16 gc16 => ?_
    have d16 := gc16.1
    have l16 := gc16.2.1
    have s16 := gc16.2.2
    have h24 : ∃ A c, vals 24 = .slice A ([[exR, exR], [exR], [exS]] : List (List Tri)).length c ∧ ([[exR, exR], [exR], [exS]] : List (List Tri)).length ≤ c ∧ LstE encT 9 V V.heap.size A ([[exR, exR], [exR], [exS]] : List (List Tri)) := hL 24 rfl
    refine Exists.elim h24 fun A24 gA24 => ?_
    refine Exists.elim gA24 fun c24 gc24 => ?_
    have d24 := gc24.1
    have l24 := gc24.2.1
    have s24 := gc24.2.2
    subst hgo
    refine wpOp_of_list_g (o := ?oI25) (g := 10) (d := 40) ?hoI25 ?hgI25 ?hdI25 ?htI25 ?hI25
    case hoI25 => exact Array.getElem?_eq_getElem (of_decide_eq_true (by kernel_rfl))
    case hgI25 => kernel_rfl
    case hdI25 => kernel_rfl
    case htI25 => rw [san_act6]; simp only [d10]; kernel_rfl
    rw [san_act6]
    simp only [List.getElem_toArray, List.getElem_cons_succ, List.getElem_cons_zero]
    simp only [d10, d16, d24]
    go_wp2_with fail
    refine (same_any A16 A24 c16 c24 _ _ V _ _ s16 s24 (by decide) (by decide) (by simp) (by simp) ex_fitsR ex_fitsR).mono ?_
    rintro e w' ⟨rfl, kk, rfl⟩
    have hd : decide ([[exR, exR], [exR], [exS]] = [[exR, exR], [exR], [exS]]) = true := by simp
    rw [hd]
    go_wp2
    first
      | exact ⟨rfl, RB.drewN _ _⟩
      | exact ⟨by trivial, rfl, RB.drewN _ _⟩
  case q26 =>
    intro vals V hR hL
    generalize hgo : wpOp Try.prog _ _ _ _ _ _ = G
    have d10 : vals 10 = Value.bool true := hL 10 rfl
    have d25 : vals 25 = Value.bool true := hL 25 rfl
    subst hgo
    refine wpOp_of_list (o := ?oI26) ?hoI26 ?hI26
    case hoI26 => exact Array.getElem?_eq_getElem (of_decide_eq_true (by kernel_rfl))
    rw [san_act6]
    simp only [d10, d25]
    go_wp2
    first
      | exact ⟨rfl, RB.refl _⟩
      | exact ⟨by trivial, rfl, RB.refl _⟩
  case q27 =>
    intro vals V hR hL
    generalize hgo : wpOp Try.prog _ _ _ _ _ _ = G
    have d26 : vals 26 = Value.bool true := hL 26 rfl
    subst hgo
    refine wpOp_of_list (o := ?oI27) ?hoI27 ?hI27
    case hoI27 => exact Array.getElem?_eq_getElem (of_decide_eq_true (by kernel_rfl))
    rw [san_act6]
    simp only [d26]
    go_wp2
    first
      | exact ⟨rfl, RB.refl _⟩
      | exact ⟨by trivial, rfl, RB.refl _⟩
  case q28 =>
    intro vals V hR hL
    generalize hgo : wpOp Try.prog _ _ _ _ _ _ = G
    have d27 : vals 27 = Value.bool true := hL 27 rfl
    subst hgo
    refine wpOp_of_list_g (o := ?oI28) (g := 27) (d := 57) ?hoI28 ?hgI28 ?hdI28 ?htI28 ?hI28
    case hoI28 => exact Array.getElem?_eq_getElem (of_decide_eq_true (by kernel_rfl))
    case hgI28 => kernel_rfl
    case hdI28 => kernel_rfl
    case htI28 => rw [san_act6]; simp only [d27]; kernel_rfl
    rw [san_act6]
    simp only [List.getElem_toArray, List.getElem_cons_succ, List.getElem_cons_zero]
    simp only [d27]
    go_wp2
    first
      | exact ⟨⟨_, 1, rfl, by decide, Sl.ofBlk encT_len (H.out.2.2.1.below hR H.out.2.2.1.lt) rfl⟩, RB.refl _⟩
      | exact ⟨by trivial, ⟨_, 1, rfl, by decide, Sl.ofBlk encT_len (H.out.2.2.1.below hR H.out.2.2.1.lt) rfl⟩, RB.refl _⟩
  case q29 =>
    intro vals V hR hL
    generalize hgo : wpOp Try.prog _ _ _ _ _ _ = G
    have d27 : vals 27 = Value.bool true := hL 27 rfl
    have C := cells9z (H.out.2.1.below hR H.out.2.1.lt)
    have t0 := C.1
    have t1 := C.2.1
    have t2 := C.2.2.1
    have t3 := C.2.2.2.1
    have t4 := C.2.2.2.2.1
    have t5 := C.2.2.2.2.2.1
    have t6 := C.2.2.2.2.2.2.1
    have t7 := C.2.2.2.2.2.2.2.1
    have t8 := C.2.2.2.2.2.2.2.2
    clear C
    subst hgo
    refine wpOp_of_list_g (o := ?oI29) (g := 27) (d := 57) ?hoI29 ?hgI29 ?hdI29 ?htI29 ?hI29
    case hoI29 => exact Array.getElem?_eq_getElem (of_decide_eq_true (by kernel_rfl))
    case hgI29 => kernel_rfl
    case hdI29 => kernel_rfl
    case htI29 => rw [san_act6]; simp only [d27]; kernel_rfl
    rw [san_act6]
    simp only [List.getElem_toArray, List.getElem_cons_succ, List.getElem_cons_zero]
    simp only [d27]
    go_wp2
    first
      | exact ⟨rfl, RB.refl _⟩
      | exact ⟨by trivial, rfl, RB.refl _⟩
  case q30 =>
    intro vals V hR hL
    generalize hgo : wpOp Try.prog _ _ _ _ _ _ = G
    have d27 : vals 27 = Value.bool true := hL 27 rfl
    have d29 : vals 29 = vT exU := hL 29 rfl
    subst hgo
    refine wpOp_of_list_g (o := ?oI30) (g := 27) (d := 57) ?hoI30 ?hgI30 ?hdI30 ?htI30 ?hI30
    case hoI30 => exact Array.getElem?_eq_getElem (of_decide_eq_true (by kernel_rfl))
    case hgI30 => kernel_rfl
    case hdI30 => kernel_rfl
    case htI30 => rw [san_act6]; simp only [d27]; kernel_rfl
    rw [san_act6]
    simp only [List.getElem_toArray, List.getElem_cons_succ, List.getElem_cons_zero]
    simp only [d27, d29]
    go_wp2
    first
      | exact ⟨⟨_, 1, rfl, by decide, Sl.ofBlk encT_len (Blk.new _ _ _) rfl⟩, RB.alloc _ _⟩
      | exact ⟨by trivial, ⟨_, 1, rfl, by decide, Sl.ofBlk encT_len (Blk.new _ _ _) rfl⟩, RB.alloc _ _⟩
  case q31 =>
    intro vals V hR hL
    generalize hgo : wpOp Try.prog _ _ _ _ _ _ = G
    have d27 : vals 27 = Value.bool true := hL 27 rfl
    have C := cells9z (H.out.1.below hR H.out.1.lt)
    have t0 := C.1
    have t1 := C.2.1
    have t2 := C.2.2.1
    have t3 := C.2.2.2.1
    have t4 := C.2.2.2.2.1
    have t5 := C.2.2.2.2.2.1
    have t6 := C.2.2.2.2.2.2.1
    have t7 := C.2.2.2.2.2.2.2.1
    have t8 := C.2.2.2.2.2.2.2.2
    clear C
    subst hgo
    refine wpOp_of_list_g (o := ?oI31) (g := 27) (d := 57) ?hoI31 ?hgI31 ?hdI31 ?htI31 ?hI31
    case hoI31 => exact Array.getElem?_eq_getElem (of_decide_eq_true (by kernel_rfl))
    case hgI31 => kernel_rfl
    case hdI31 => kernel_rfl
    case htI31 => rw [san_act6]; simp only [d27]; kernel_rfl
    rw [san_act6]
    simp only [List.getElem_toArray, List.getElem_cons_succ, List.getElem_cons_zero]
    simp only [d27]
    go_wp2
    first
      | exact ⟨rfl, RB.refl _⟩
      | exact ⟨by trivial, rfl, RB.refl _⟩
  case q32 =>
    intro vals V hR hL
    generalize hgo : wpOp Try.prog _ _ _ _ _ _ = G
    have d27 : vals 27 = Value.bool true := hL 27 rfl
    have C := cells9z (H.out.2.1.below hR H.out.2.1.lt)
    have t0 := C.1
    have t1 := C.2.1
    have t2 := C.2.2.1
    have t3 := C.2.2.2.1
    have t4 := C.2.2.2.2.1
    have t5 := C.2.2.2.2.2.1
    have t6 := C.2.2.2.2.2.2.1
    have t7 := C.2.2.2.2.2.2.2.1
    have t8 := C.2.2.2.2.2.2.2.2
    clear C
    subst hgo
    refine wpOp_of_list_g (o := ?oI32) (g := 27) (d := 57) ?hoI32 ?hgI32 ?hdI32 ?htI32 ?hI32
    case hoI32 => exact Array.getElem?_eq_getElem (of_decide_eq_true (by kernel_rfl))
    case hgI32 => kernel_rfl
    case hdI32 => kernel_rfl
    case htI32 => rw [san_act6]; simp only [d27]; kernel_rfl
    rw [san_act6]
    simp only [List.getElem_toArray, List.getElem_cons_succ, List.getElem_cons_zero]
    simp only [d27]
    go_wp2
    first
      | exact ⟨rfl, RB.refl _⟩
      | exact ⟨by trivial, rfl, RB.refl _⟩
  case q33 =>
    intro vals V hR hL
    generalize hgo : wpOp Try.prog _ _ _ _ _ _ = G
    have d27 : vals 27 = Value.bool true := hL 27 rfl
    have d31 : vals 31 = vT exT := hL 31 rfl
    have d32 : vals 32 = vT exU := hL 32 rfl
    subst hgo
    refine wpOp_of_list_g (o := ?oI33) (g := 27) (d := 57) ?hoI33 ?hgI33 ?hdI33 ?htI33 ?hI33
    case hoI33 => exact Array.getElem?_eq_getElem (of_decide_eq_true (by kernel_rfl))
    case hgI33 => kernel_rfl
    case hdI33 => kernel_rfl
    case htI33 => rw [san_act6]; simp only [d27]; kernel_rfl
    rw [san_act6]
    simp only [List.getElem_toArray, List.getElem_cons_succ, List.getElem_cons_zero]
    simp only [d27, d31, d32]
    go_wp2
    first
      | exact ⟨⟨_, 2, rfl, by decide, Sl.ofBlk encT_len (Blk.new _ _ _) rfl⟩, RB.alloc _ _⟩
      | exact ⟨by trivial, ⟨_, 2, rfl, by decide, Sl.ofBlk encT_len (Blk.new _ _ _) rfl⟩, RB.alloc _ _⟩
  case q34 =>
    intro vals V hR hL
    generalize hgo : wpOp Try.prog _ _ _ _ _ _ = G
    have d27 : vals 27 = Value.bool true := hL 27 rfl
    have h28 : ∃ A c, vals 28 = .slice A ([exT] : List Tri).length c ∧ ([exT] : List Tri).length ≤ c ∧ Sl encT 9 V V.heap.size A ([exT] : List Tri) := hL 28 rfl
    refine Exists.elim h28 fun A28 gA28 => ?_
    refine Exists.elim gA28 fun c28 gc28 => ?_
    have d28 := gc28.1
    have l28 := gc28.2.1
    have s28 := gc28.2.2
    have h30 : ∃ A c, vals 30 = .slice A ([exU] : List Tri).length c ∧ ([exU] : List Tri).length ≤ c ∧ Sl encT 9 V V.heap.size A ([exU] : List Tri) := hL 30 rfl
    refine Exists.elim h30 fun A30 gA30 => ?_
    refine Exists.elim gA30 fun c30 gc30 => ?_
    have d30 := gc30.1
    have l30 := gc30.2.1
    have s30 := gc30.2.2
    have h33 : ∃ A c, vals 33 = .slice A ([exT, exU] : List Tri).length c ∧ ([exT, exU] : List Tri).length ≤ c ∧ Sl encT 9 V V.heap.size A ([exT, exU] : List Tri) := hL 33 rfl
    refine Exists.elim h33 fun A33 gA33 => ?_
    refine Exists.elim gA33 fun c33 gc33 => ?_
    have d33 := gc33.1
    have l33 := gc33.2.1
    have s33 := gc33.2.2
    subst hgo
    refine wpOp_of_list_g (o := ?oI34) (g := 27) (d := 57) ?hoI34 ?hgI34 ?hdI34 ?htI34 ?hI34
    case hoI34 => exact Array.getElem?_eq_getElem (of_decide_eq_true (by kernel_rfl))
    case hgI34 => kernel_rfl
    case hdI34 => kernel_rfl
    case htI34 => rw [san_act6]; simp only [d27]; kernel_rfl
    rw [san_act6]
    simp only [List.getElem_toArray, List.getElem_cons_succ, List.getElem_cons_zero]
    simp only [d27, d28, d30, d33]
    go_wp2
    first
      | exact ⟨⟨_, 4, rfl, by decide, LstE.ofBlk (hs := [(A28, 1, c28), (A30, 1, c30), (A33, 2, c33), (none, 0, 0)]) rfl (Blk.new _ _ _) rfl ⟨rfl, ((s28.below (RB.alloc V _)).more (by simp)), rfl, ((s30.below (RB.alloc V _)).more (by simp)), rfl, ((s33.below (RB.alloc V _)).more (by simp)), rfl, Sl.nil, trivial⟩⟩, RB.alloc _ _⟩
      | exact ⟨by trivial, ⟨_, 4, rfl, by decide, LstE.ofBlk (hs := [(A28, 1, c28), (A30, 1, c30), (A33, 2, c33), (none, 0, 0)]) rfl (Blk.new _ _ _) rfl ⟨rfl, ((s28.below (RB.alloc V _)).more (by simp)), rfl, ((s30.below (RB.alloc V _)).more (by simp)), rfl, ((s33.below (RB.alloc V _)).more (by simp)), rfl, Sl.nil, trivial⟩⟩, RB.alloc _ _⟩
  case q35 =>
    intro vals V hR hL
    generalize hgo : wpOp Try.prog _ _ _ _ _ _ = G
    have d27 : vals 27 = Value.bool true := hL 27 rfl
    have h34 : ∃ A c, vals 34 = .slice A ([[exT], [exU], [exT, exU], []] : List (List Tri)).length c ∧ ([[exT], [exU], [exT, exU], []] : List (List Tri)).length ≤ c ∧ LstE encT 9 V V.heap.size A ([[exT], [exU], [exT, exU], []] : List (List Tri)) := hL 34 rfl
    refine Exists.elim h34 fun A34 gA34 => ?_
    refine Exists.elim gA34 fun c34 gc34 => ?_
    have d34 := gc34.1
    have l34 := gc34.2.1
    have s34 := gc34.2.2
    subst hgo
    refine wpOp_of_list_g (o := ?oI35) (g := 27) (d := 57) ?hoI35 ?hgI35 ?hdI35 ?htI35 ?hI35
    case hoI35 => exact Array.getElem?_eq_getElem (of_decide_eq_true (by kernel_rfl))
    case hgI35 => kernel_rfl
    case hdI35 => kernel_rfl
    case htI35 => rw [san_act6]; simp only [d27]; kernel_rfl
    rw [san_act6]
    simp only [List.getElem_toArray, List.getElem_cons_succ, List.getElem_cons_zero]
    simp only [d27, d34]
    go_wp2_with fail
    refine (groups_any A34 c34 [[exT], [exU], [exT, exU], []] 2 false V s34 l34 (by decide) (by simp) ex_fitsG).mono ?_
    rintro e w' ⟨v, rfl, hp, hB'⟩
    rw [ex_groups] at hp
    refine Exists.elim (hp.lst encI_len) fun Ar k1 => ?_
    refine Exists.elim k1 fun cr k2 => ?_
    have e1 := k2.1
    subst e1
    have HW := hide k2.2
    clear hp k1 k2
    go_wp2
    first
      | exact ⟨⟨_, _, rfl, HW.out.1, HW.out.2⟩, hB'⟩
      | exact ⟨by trivial, ⟨_, _, rfl, HW.out.1, HW.out.2⟩, hB'⟩
  case q36 =>
    intro vals V hR hL
    generalize hgo : wpOp Try.prog _ _ _ _ _ _ = G
    have d27 : vals 27 = Value.bool true := hL 27 rfl
    subst hgo
    refine wpOp_of_list_g (o := ?oI36) (g := 27) (d := 57) ?hoI36 ?hgI36 ?hdI36 ?htI36 ?hI36
    case hoI36 => exact Array.getElem?_eq_getElem (of_decide_eq_true (by kernel_rfl))
    case hgI36 => kernel_rfl
    case hdI36 => kernel_rfl
    case htI36 => rw [san_act6]; simp only [d27]; kernel_rfl
    rw [san_act6]
    simp only [List.getElem_toArray, List.getElem_cons_succ, List.getElem_cons_zero]
    simp only [d27]
    go_wp2
    first
      | exact ⟨⟨_, 1, rfl, by decide, Sl.ofBlk encI_len (Blk.new _ _ _) rfl⟩, RB.alloc _ _⟩
      | exact ⟨by trivial, ⟨_, 1, rfl, by decide, Sl.ofBlk encI_len (Blk.new _ _ _) rfl⟩, RB.alloc _ _⟩
  case q37 =>
    intro vals V hR hL
    generalize hgo : wpOp Try.prog _ _ _ _ _ _ = G
    have d27 : vals 27 = Value.bool true := hL 27 rfl
    subst hgo
    refine wpOp_of_list_g (o := ?oI37) (g := 27) (d := 57) ?hoI37 ?hgI37 ?hdI37 ?htI37 ?hI37
    case hoI37 => exact Array.getElem?_eq_getElem (of_decide_eq_true (by kernel_rfl))
    case hgI37 => kernel_rfl
    case hdI37 => kernel_rfl
    case htI37 => rw [san_act6]; simp only [d27]; kernel_rfl
    rw [san_act6]
    simp only [List.getElem_toArray, List.getElem_cons_succ, List.getElem_cons_zero]
    simp only [d27]
    go_wp2
    first
      | exact ⟨⟨_, 2, rfl, by decide, Sl.ofBlk encI_len (Blk.new _ _ _) rfl⟩, RB.alloc _ _⟩
      | exact ⟨by trivial, ⟨_, 2, rfl, by decide, Sl.ofBlk encI_len (Blk.new _ _ _) rfl⟩, RB.alloc _ _⟩
  case q38 =>
    intro vals V hR hL
    generalize hgo : wpOp Try.prog _ _ _ _ _ _ = G
    have d27 : vals 27 = Value.bool true := hL 27 rfl
    subst hgo
    refine wpOp_of_list_g (o := ?oI38) (g := 27) (d := 57) ?hoI38 ?hgI38 ?hdI38 ?htI38 ?hI38
    case hoI38 => exact Array.getElem?_eq_getElem (of_decide_eq_true (by kernel_rfl))
    case hgI38 => kernel_rfl
    case hdI38 => kernel_rfl
    case htI38 => rw [san_act6]; simp only [d27]; kernel_rfl
    rw [san_act6]
    simp only [List.getElem_toArray, List.getElem_cons_succ, List.getElem_cons_zero]
    simp only [d27]
    go_wp2
    first
      | exact ⟨⟨_, 1, rfl, by decide, Sl.ofBlk encI_len (Blk.new _ _ _) rfl⟩, RB.alloc _ _⟩
      | exact ⟨by trivial, ⟨_, 1, rfl, by decide, Sl.ofBlk encI_len (Blk.new _ _ _) rfl⟩, RB.alloc _ _⟩
  case q39 =>
    intro vals V hR hL
    generalize hgo : wpOp Try.prog _ _ _ _ _ _ = G
    have d27 : vals 27 = Value.bool true := hL 27 rfl
    have h36 : ∃ A c, vals 36 = .slice A ([3] : List Nat).length c ∧ ([3] : List Nat).length ≤ c ∧ Sl encI 1 V V.heap.size A ([3] : List Nat) := hL 36 rfl
    refine Exists.elim h36 fun A36 gA36 => ?_
    refine Exists.elim gA36 fun c36 gc36 => ?_
    have d36 := gc36.1
    have l36 := gc36.2.1
    have s36 := gc36.2.2
    have h37 : ∃ A c, vals 37 = .slice A ([0, 2] : List Nat).length c ∧ ([0, 2] : List Nat).length ≤ c ∧ Sl encI 1 V V.heap.size A ([0, 2] : List Nat) := hL 37 rfl
    refine Exists.elim h37 fun A37 gA37 => ?_
    refine Exists.elim gA37 fun c37 gc37 => ?_
    have d37 := gc37.1
    have l37 := gc37.2.1
    have s37 := gc37.2.2
    have h38 : ∃ A c, vals 38 = .slice A ([1] : List Nat).length c ∧ ([1] : List Nat).length ≤ c ∧ Sl encI 1 V V.heap.size A ([1] : List Nat) := hL 38 rfl
    refine Exists.elim h38 fun A38 gA38 => ?_
    refine Exists.elim gA38 fun c38 gc38 => ?_
    have d38 := gc38.1
    have l38 := gc38.2.1
    have s38 := gc38.2.2
    subst hgo
    refine wpOp_of_list_g (o := ?oI39) (g := 27) (d := 57) ?hoI39 ?hgI39 ?hdI39 ?htI39 ?hI39
    case hoI39 => exact Array.getElem?_eq_getElem (of_decide_eq_true (by kernel_rfl))
    case hgI39 => kernel_rfl
    case hdI39 => kernel_rfl
    case htI39 => rw [san_act6]; simp only [d27]; kernel_rfl
    rw [san_act6]
    simp only [List.getElem_toArray, List.getElem_cons_succ, List.getElem_cons_zero]
    simp only [d27, d36, d37, d38]
    go_wp2
    first
      | exact ⟨⟨_, 3, rfl, by decide, LstE.ofBlk (hs := [(A36, 1, c36), (A37, 2, c37), (A38, 1, c38)]) rfl (Blk.new _ _ _) rfl ⟨rfl, ((s36.below (RB.alloc V _)).more (by simp)), rfl, ((s37.below (RB.alloc V _)).more (by simp)), rfl, ((s38.below (RB.alloc V _)).more (by simp)), trivial⟩⟩, RB.alloc _ _⟩
      | exact ⟨by trivial, ⟨_, 3, rfl, by decide, LstE.ofBlk (hs := [(A36, 1, c36), (A37, 2, c37), (A38, 1, c38)]) rfl (Blk.new _ _ _) rfl ⟨rfl, ((s36.below (RB.alloc V _)).more (by simp)), rfl, ((s37.below (RB.alloc V _)).more (by simp)), rfl, ((s38.below (RB.alloc V _)).more (by simp)), trivial⟩⟩, RB.alloc _ _⟩
  case q40 =>
    intro vals V hR hL
    generalize hgo : wpOp Try.prog _ _ _ _ _ _ = G
    have d27 : vals 27 = Value.bool true := hL 27 rfl
    have h35 : ∃ A c, vals 35 = .slice A ([[3], [0, 2], [1]] : List (List Nat)).length c ∧ ([[3], [0, 2], [1]] : List (List Nat)).length ≤ c ∧ LstE encI 1 V V.heap.size A ([[3], [0, 2], [1]] : List (List Nat)) := hL 35 rfl
    refine Exists.elim h35 fun A35 gA35 => ?_
    refine Exists.elim gA35 fun c35 gc35 => ?_
    have d35 := gc35.1
    have l35 := gc35.2.1
    have s35 := gc35.2.2
    have h39 : ∃ A c, vals 39 = .slice A ([[3], [0, 2], [1]] : List (List Nat)).length c ∧ ([[3], [0, 2], [1]] : List (List Nat)).length ≤ c ∧ LstE encI 1 V V.heap.size A ([[3], [0, 2], [1]] : List (List Nat)) := hL 39 rfl
    refine Exists.elim h39 fun A39 gA39 => ?_
    refine Exists.elim gA39 fun c39 gc39 => ?_
    have d39 := gc39.1
    have l39 := gc39.2.1
    have s39 := gc39.2.2
    subst hgo
    refine wpOp_of_list_g (o := ?oI40) (g := 27) (d := 57) ?hoI40 ?hgI40 ?hdI40 ?htI40 ?hI40
    case hoI40 => exact Array.getElem?_eq_getElem (of_decide_eq_true (by kernel_rfl))
    case hgI40 => kernel_rfl
    case hdI40 => kernel_rfl
    case htI40 => rw [san_act6]; simp only [d27]; kernel_rfl
    rw [san_act6]
    simp only [List.getElem_toArray, List.getElem_cons_succ, List.getElem_cons_zero]
    simp only [d27, d35, d39]
    go_wp2_with fail
    refine (sameI_any A35 A39 c35 c39 _ _ V _ _ s35 s39 (by decide) (by decide) (by simp) (by simp)).mono ?_
    rintro e w' ⟨rfl, kk, rfl⟩
    have hd : decide ([[3], [0, 2], [1]] = [[3], [0, 2], [1]]) = true := by simp
    rw [hd]
    go_wp2
    first
      | exact ⟨rfl, RB.drewN _ _⟩
      | exact ⟨by trivial, rfl, RB.drewN _ _⟩
  case q41 =>
    intro vals V hR hL
    generalize hgo : wpOp Try.prog _ _ _ _ _ _ = G
    have d27 : vals 27 = Value.bool true := hL 27 rfl
    have d40 : vals 40 = Value.bool true := hL 40 rfl
    subst hgo
    refine wpOp_of_list (o := ?oI41) ?hoI41 ?hI41
    case hoI41 => exact Array.getElem?_eq_getElem (of_decide_eq_true (by kernel_rfl))
    rw [san_act6]
    simp only [d27, d40]
    go_wp2
    first
      | exact ⟨rfl, RB.refl _⟩
      | exact ⟨by trivial, rfl, RB.refl _⟩
  case q42 =>
    intro vals V hR hL
    generalize hgo : wpOp Try.prog _ _ _ _ _ _ = G
    have d41 : vals 41 = Value.bool true := hL 41 rfl
    subst hgo
    refine wpOp_of_list (o := ?oI42) ?hoI42 ?hI42
    case hoI42 => exact Array.getElem?_eq_getElem (of_decide_eq_true (by kernel_rfl))
    rw [san_act6]
    simp only [d41]
    go_wp2
    first
      | exact ⟨rfl, RB.refl _⟩
      | exact ⟨by trivial, rfl, RB.refl _⟩
  case q43 =>
    intro vals V hR hL
    generalize hgo : wpOp Try.prog _ _ _ _ _ _ = G
    have d42 : vals 42 = Value.bool true := hL 42 rfl
    subst hgo
    refine wpOp_of_list_g (o := ?oI43) (g := 42) (d := 72) ?hoI43 ?hgI43 ?hdI43 ?htI43 ?hI43
    case hoI43 => exact Array.getElem?_eq_getElem (of_decide_eq_true (by kernel_rfl))
    case hgI43 => kernel_rfl
    case hdI43 => kernel_rfl
    case htI43 => rw [san_act6]; simp only [d42]; kernel_rfl
    rw [san_act6]
    simp only [List.getElem_toArray, List.getElem_cons_succ, List.getElem_cons_zero]
    simp only [d42]
    go_wp2
    first
      | exact ⟨Word.keeps _ _ _ _ H.out.2.2.2.2.2 hR, RB.refl _⟩
      | exact ⟨by trivial, Word.keeps _ _ _ _ H.out.2.2.2.2.2 hR, RB.refl _⟩
  case q44 =>
    intro vals V hR hL
    generalize hgo : wpOp Try.prog _ _ _ _ _ _ = G
    have d42 : vals 42 = Value.bool true := hL 42 rfl
    have h43 : ∃ A c, vals 43 = .slice A ([[exR, exR], [exR, exR], [exR]] : List (List Tri)).length c ∧ ([[exR, exR], [exR, exR], [exR]] : List (List Tri)).length ≤ c ∧ LstE encT 9 V V.heap.size A ([[exR, exR], [exR, exR], [exR]] : List (List Tri)) := hL 43 rfl
    refine Exists.elim h43 fun A43 gA43 => ?_
    refine Exists.elim gA43 fun c43 gc43 => ?_
    have d43 := gc43.1
    have l43 := gc43.2.1
    have s43 := gc43.2.2
    subst hgo
    refine wpOp_of_list_g (o := ?oI44) (g := 42) (d := 72) ?hoI44 ?hgI44 ?hdI44 ?htI44 ?hI44
    case hoI44 => exact Array.getElem?_eq_getElem (of_decide_eq_true (by kernel_rfl))
    case hgI44 => kernel_rfl
    case hdI44 => kernel_rfl
    case htI44 => rw [san_act6]; simp only [d42]; kernel_rfl
    rw [san_act6]
    simp only [List.getElem_toArray, List.getElem_cons_succ, List.getElem_cons_zero]
    simp only [d42, d43]
    go_wp2
    first
      | exact ⟨rfl, RB.refl _⟩
      | exact ⟨by trivial, rfl, RB.refl _⟩
  case q45 =>
    intro vals V hR hL
    generalize hgo : wpOp Try.prog _ _ _ _ _ _ = G
    have d42 : vals 42 = Value.bool true := hL 42 rfl
    have d44 : vals 44 = Value.int .i64 3 := hL 44 rfl
    subst hgo
    refine wpOp_of_list_g (o := ?oI45) (g := 42) (d := 72) ?hoI45 ?hgI45 ?hdI45 ?htI45 ?hI45
    case hoI45 => exact Array.getElem?_eq_getElem (of_decide_eq_true (by kernel_rfl))
    case hgI45 => kernel_rfl
    case hdI45 => kernel_rfl
    case htI45 => rw [san_act6]; simp only [d42]; kernel_rfl
    rw [san_act6]
    simp only [List.getElem_toArray, List.getElem_cons_succ, List.getElem_cons_zero]
    simp only [d42, d44]
    go_wp2
    first
      | exact ⟨rfl, RB.refl _⟩
      | exact ⟨by trivial, rfl, RB.refl _⟩
  case q46 =>
    intro vals V hR hL
    generalize hgo : wpOp Try.prog _ _ _ _ _ _ = G
    have d42 : vals 42 = Value.bool true := hL 42 rfl
    have d45 : vals 45 = Value.bool true := hL 45 rfl
    subst hgo
    refine wpOp_of_list (o := ?oI46) ?hoI46 ?hI46
    case hoI46 => exact Array.getElem?_eq_getElem (of_decide_eq_true (by kernel_rfl))
    rw [san_act6]
    simp only [d42, d45]
    go_wp2
    first
      | exact ⟨rfl, RB.refl _⟩
      | exact ⟨by trivial, rfl, RB.refl _⟩
  case q47 =>
    intro vals V hR hL
    generalize hgo : wpOp Try.prog _ _ _ _ _ _ = G
    have d46 : vals 46 = Value.bool true := hL 46 rfl
    subst hgo
    refine wpOp_of_list (o := ?oI47) ?hoI47 ?hI47
    case hoI47 => exact Array.getElem?_eq_getElem (of_decide_eq_true (by kernel_rfl))
    rw [san_act6]
    simp only [d46]
    go_wp2
    first
      | exact ⟨rfl, RB.refl _⟩
      | exact ⟨by trivial, rfl, RB.refl _⟩
  case q48 =>
    intro vals V hR hL
    generalize hgo : wpOp Try.prog _ _ _ _ _ _ = G
    have d47 : vals 47 = Value.bool true := hL 47 rfl
    subst hgo
    refine wpOp_of_list_g (o := ?oI48) (g := 47) (d := 77) ?hoI48 ?hgI48 ?hdI48 ?htI48 ?hI48
    case hoI48 => exact Array.getElem?_eq_getElem (of_decide_eq_true (by kernel_rfl))
    case hgI48 => kernel_rfl
    case hdI48 => kernel_rfl
    case htI48 => rw [san_act6]; simp only [d47]; kernel_rfl
    rw [san_act6]
    simp only [List.getElem_toArray, List.getElem_cons_succ, List.getElem_cons_zero]
    simp only [d47]
    go_wp2
    first
      | exact ⟨Word.keeps _ _ _ _ H.out.2.2.2.2.2 hR, RB.refl _⟩
      | exact ⟨by trivial, Word.keeps _ _ _ _ H.out.2.2.2.2.2 hR, RB.refl _⟩
  case q49 =>
    intro vals V hR hL
    generalize hgo : wpOp Try.prog _ _ _ _ _ _ = G
    have d47 : vals 47 = Value.bool true := hL 47 rfl
    have h48 : ∃ A c, vals 48 = .slice A ([[exR, exR], [exR, exR], [exR]] : List (List Tri)).length c ∧ ([[exR, exR], [exR, exR], [exR]] : List (List Tri)).length ≤ c ∧ LstE encT 9 V V.heap.size A ([[exR, exR], [exR, exR], [exR]] : List (List Tri)) := hL 48 rfl
    refine Exists.elim h48 fun A48 gA48 => ?_
    refine Exists.elim gA48 fun c48 gc48 => ?_
    have d48 := gc48.1
    have l48 := gc48.2.1
    have s48 := gc48.2.2
    refine Exists.elim (s48.at (i := 0) rfl) fun bb k1 => ?_
    refine Exists.elim k1 fun oo k2 => ?_
    refine Exists.elim k2 fun Ap k3 => ?_
    refine Exists.elim k3 fun cp k4 => ?_
    have e1 := k4.1
    subst hgo
    refine wpOp_of_list_g (o := ?oI49) (g := 47) (d := 77) ?hoI49 ?hgI49 ?hdI49 ?htI49 ?hI49
    case hoI49 => exact Array.getElem?_eq_getElem (of_decide_eq_true (by kernel_rfl))
    case hgI49 => kernel_rfl
    case hdI49 => kernel_rfl
    case htI49 => rw [san_act6]; simp only [d47]; kernel_rfl
    rw [san_act6]
    simp only [List.getElem_toArray, List.getElem_cons_succ, List.getElem_cons_zero]
    simp only [d47, d48]
    simp only [e1]
    go_wp2
    first
      | exact ⟨⟨_, _, _, _, rfl, k4.2.1, k4.2.2.1, k4.2.2.2⟩, RB.refl _⟩
      | exact ⟨by trivial, ⟨_, _, _, _, rfl, k4.2.1, k4.2.2.1, k4.2.2.2⟩, RB.refl _⟩
  case q50 =>
    intro vals V hR hL
    generalize hgo : wpOp Try.prog _ _ _ _ _ _ = G
    have d47 : vals 47 = Value.bool true := hL 47 rfl
    have h49 : ∃ b o A c, vals 49 = .pointer (some ⟨b, o, none⟩) ∧ b < V.heap.size ∧ V.cell? ⟨b, o, none⟩ = some (.slice A ([exR, exR] : List Tri).length c) ∧ Sl encT 9 V V.heap.size A ([exR, exR] : List Tri) := hL 49 rfl
    refine Exists.elim h49 fun b49 gb49 => ?_
    refine Exists.elim gb49 fun o49 go49 => ?_
    refine Exists.elim go49 fun A49 gA49 => ?_
    refine Exists.elim gA49 fun c49 gc49 => ?_
    have d49 := gc49.1
    have l49 := gc49.2.1
    have p49 := gc49.2.2.1
    have s49 := gc49.2.2.2
    subst hgo
    refine wpOp_of_list_g (o := ?oI50) (g := 47) (d := 77) ?hoI50 ?hgI50 ?hdI50 ?htI50 ?hI50
    case hoI50 => exact Array.getElem?_eq_getElem (of_decide_eq_true (by kernel_rfl))
    case hgI50 => kernel_rfl
    case hdI50 => kernel_rfl
    case htI50 => rw [san_act6]; simp only [d47]; kernel_rfl
    rw [san_act6]
    simp only [List.getElem_toArray, List.getElem_cons_succ, List.getElem_cons_zero]
    simp only [d47, d49]
    go_wp2
    first
      | exact ⟨⟨_, _, rfl⟩, RB.refl _⟩
      | exact ⟨by trivial, ⟨_, _, rfl⟩, RB.refl _⟩
  case q51 =>
    intro vals V hR hL
    generalize hgo : wpOp Try.prog _ _ _ _ _ _ = G
    have d47 : vals 47 = Value.bool true := hL 47 rfl
    have h50 : ∃ A c, vals 50 = .slice A 2 c := hL 50 rfl
    refine Exists.elim h50 fun A50 gA50 => ?_
    refine Exists.elim gA50 fun c50 gc50 => ?_
    have d50 := gc50
    subst hgo
    refine wpOp_of_list_g (o := ?oI51) (g := 47) (d := 77) ?hoI51 ?hgI51 ?hdI51 ?htI51 ?hI51
    case hoI51 => exact Array.getElem?_eq_getElem (of_decide_eq_true (by kernel_rfl))
    case hgI51 => kernel_rfl
    case hdI51 => kernel_rfl
    case htI51 => rw [san_act6]; simp only [d47]; kernel_rfl
    rw [san_act6]
    simp only [List.getElem_toArray, List.getElem_cons_succ, List.getElem_cons_zero]
    simp only [d47, d50]
    go_wp2
    first
      | exact ⟨rfl, RB.refl _⟩
      | exact ⟨by trivial, rfl, RB.refl _⟩
  case q52 =>
    intro vals V hR hL
    generalize hgo : wpOp Try.prog _ _ _ _ _ _ = G
    have d47 : vals 47 = Value.bool true := hL 47 rfl
    have d51 : vals 51 = Value.int .i64 2 := hL 51 rfl
    subst hgo
    refine wpOp_of_list_g (o := ?oI52) (g := 47) (d := 77) ?hoI52 ?hgI52 ?hdI52 ?htI52 ?hI52
    case hoI52 => exact Array.getElem?_eq_getElem (of_decide_eq_true (by kernel_rfl))
    case hgI52 => kernel_rfl
    case hdI52 => kernel_rfl
    case htI52 => rw [san_act6]; simp only [d47]; kernel_rfl
    rw [san_act6]
    simp only [List.getElem_toArray, List.getElem_cons_succ, List.getElem_cons_zero]
    simp only [d47, d51]
    go_wp2
    first
      | exact ⟨rfl, RB.refl _⟩
      | exact ⟨by trivial, rfl, RB.refl _⟩
  case q53 =>
    intro vals V hR hL
    generalize hgo : wpOp Try.prog _ _ _ _ _ _ = G
    have d47 : vals 47 = Value.bool true := hL 47 rfl
    have d52 : vals 52 = Value.bool true := hL 52 rfl
    subst hgo
    refine wpOp_of_list (o := ?oI53) ?hoI53 ?hI53
    case hoI53 => exact Array.getElem?_eq_getElem (of_decide_eq_true (by kernel_rfl))
    rw [san_act6]
    simp only [d47, d52]
    go_wp2
    first
      | exact ⟨rfl, RB.refl _⟩
      | exact ⟨by trivial, rfl, RB.refl _⟩
  case q54 =>
    intro vals V hR hL
    generalize hgo : wpOp Try.prog _ _ _ _ _ _ = G
    have d53 : vals 53 = Value.bool true := hL 53 rfl
    subst hgo
    refine wpOp_of_list (o := ?oI54) ?hoI54 ?hI54
    case hoI54 => exact Array.getElem?_eq_getElem (of_decide_eq_true (by kernel_rfl))
    rw [san_act6]
    simp only [d53]
    go_wp2
    first
      | exact ⟨rfl, RB.refl _⟩
      | exact ⟨by trivial, rfl, RB.refl _⟩
  case q55 =>
    intro vals V hR hL
    generalize hgo : wpOp Try.prog _ _ _ _ _ _ = G
    have d54 : vals 54 = Value.bool true := hL 54 rfl
    subst hgo
    refine wpOp_of_list_g (o := ?oI55) (g := 54) (d := 84) ?hoI55 ?hgI55 ?hdI55 ?htI55 ?hI55
    case hoI55 => exact Array.getElem?_eq_getElem (of_decide_eq_true (by kernel_rfl))
    case hgI55 => kernel_rfl
    case hdI55 => kernel_rfl
    case htI55 => rw [san_act6]; simp only [d54]; kernel_rfl
    rw [san_act6]
    simp only [List.getElem_toArray, List.getElem_cons_succ, List.getElem_cons_zero]
    simp only [d54]
    go_wp2
    first
      | exact ⟨Word.keeps _ _ _ _ H.out.2.2.2.2.2 hR, RB.refl _⟩
      | exact ⟨by trivial, Word.keeps _ _ _ _ H.out.2.2.2.2.2 hR, RB.refl _⟩
  case q56 =>
    intro vals V hR hL
    generalize hgo : wpOp Try.prog _ _ _ _ _ _ = G
    have d54 : vals 54 = Value.bool true := hL 54 rfl
    have h55 : ∃ A c, vals 55 = .slice A ([[exR, exR], [exR, exR], [exR]] : List (List Tri)).length c ∧ ([[exR, exR], [exR, exR], [exR]] : List (List Tri)).length ≤ c ∧ LstE encT 9 V V.heap.size A ([[exR, exR], [exR, exR], [exR]] : List (List Tri)) := hL 55 rfl
    refine Exists.elim h55 fun A55 gA55 => ?_
    refine Exists.elim gA55 fun c55 gc55 => ?_
    have d55 := gc55.1
    have l55 := gc55.2.1
    have s55 := gc55.2.2
    refine Exists.elim (s55.at (i := 2) rfl) fun bb k1 => ?_
    refine Exists.elim k1 fun oo k2 => ?_
    refine Exists.elim k2 fun Ap k3 => ?_
    refine Exists.elim k3 fun cp k4 => ?_
    have e1 := k4.1
    subst hgo
    refine wpOp_of_list_g (o := ?oI56) (g := 54) (d := 84) ?hoI56 ?hgI56 ?hdI56 ?htI56 ?hI56
    case hoI56 => exact Array.getElem?_eq_getElem (of_decide_eq_true (by kernel_rfl))
    case hgI56 => kernel_rfl
    case hdI56 => kernel_rfl
    case htI56 => rw [san_act6]; simp only [d54]; kernel_rfl
    rw [san_act6]
    simp only [List.getElem_toArray, List.getElem_cons_succ, List.getElem_cons_zero]
    simp only [d54, d55]
    simp only [e1]
    go_wp2
    first
      | exact ⟨⟨_, _, _, _, rfl, k4.2.1, k4.2.2.1, k4.2.2.2⟩, RB.refl _⟩
      | exact ⟨by trivial, ⟨_, _, _, _, rfl, k4.2.1, k4.2.2.1, k4.2.2.2⟩, RB.refl _⟩
  case q57 =>
    intro vals V hR hL
    generalize hgo : wpOp Try.prog _ _ _ _ _ _ = G
    have d54 : vals 54 = Value.bool true := hL 54 rfl
    have h56 : ∃ b o A c, vals 56 = .pointer (some ⟨b, o, none⟩) ∧ b < V.heap.size ∧ V.cell? ⟨b, o, none⟩ = some (.slice A ([exR] : List Tri).length c) ∧ Sl encT 9 V V.heap.size A ([exR] : List Tri) := hL 56 rfl
    refine Exists.elim h56 fun b56 gb56 => ?_
    refine Exists.elim gb56 fun o56 go56 => ?_
    refine Exists.elim go56 fun A56 gA56 => ?_
    refine Exists.elim gA56 fun c56 gc56 => ?_
    have d56 := gc56.1
    have l56 := gc56.2.1
    have p56 := gc56.2.2.1
    have s56 := gc56.2.2.2
    subst hgo
    refine wpOp_of_list_g (o := ?oI57) (g := 54) (d := 84) ?hoI57 ?hgI57 ?hdI57 ?htI57 ?hI57
    case hoI57 => exact Array.getElem?_eq_getElem (of_decide_eq_true (by kernel_rfl))
    case hgI57 => kernel_rfl
    case hdI57 => kernel_rfl
    case htI57 => rw [san_act6]; simp only [d54]; kernel_rfl
    rw [san_act6]
    simp only [List.getElem_toArray, List.getElem_cons_succ, List.getElem_cons_zero]
    simp only [d54, d56]
    go_wp2
    first
      | exact ⟨⟨_, _, rfl⟩, RB.refl _⟩
      | exact ⟨by trivial, ⟨_, _, rfl⟩, RB.refl _⟩
  case q58 =>
    intro vals V hR hL
    generalize hgo : wpOp Try.prog _ _ _ _ _ _ = G
    have d54 : vals 54 = Value.bool true := hL 54 rfl
    have h57 : ∃ A c, vals 57 = .slice A 1 c := hL 57 rfl
    refine Exists.elim h57 fun A57 gA57 => ?_
    refine Exists.elim gA57 fun c57 gc57 => ?_
    have d57 := gc57
    subst hgo
    refine wpOp_of_list_g (o := ?oI58) (g := 54) (d := 84) ?hoI58 ?hgI58 ?hdI58 ?htI58 ?hI58
    case hoI58 => exact Array.getElem?_eq_getElem (of_decide_eq_true (by kernel_rfl))
    case hgI58 => kernel_rfl
    case hdI58 => kernel_rfl
    case htI58 => rw [san_act6]; simp only [d54]; kernel_rfl
    rw [san_act6]
    simp only [List.getElem_toArray, List.getElem_cons_succ, List.getElem_cons_zero]
    simp only [d54, d57]
    go_wp2
    first
      | exact ⟨rfl, RB.refl _⟩
      | exact ⟨by trivial, rfl, RB.refl _⟩
  case q59 =>
    intro vals V hR hL
    generalize hgo : wpOp Try.prog _ _ _ _ _ _ = G
    have d54 : vals 54 = Value.bool true := hL 54 rfl
    have d58 : vals 58 = Value.int .i64 1 := hL 58 rfl
    subst hgo
    refine wpOp_of_list_g (o := ?oI59) (g := 54) (d := 84) ?hoI59 ?hgI59 ?hdI59 ?htI59 ?hI59
    case hoI59 => exact Array.getElem?_eq_getElem (of_decide_eq_true (by kernel_rfl))
    case hgI59 => kernel_rfl
    case hdI59 => kernel_rfl
    case htI59 => rw [san_act6]; simp only [d54]; kernel_rfl
    rw [san_act6]
    simp only [List.getElem_toArray, List.getElem_cons_succ, List.getElem_cons_zero]
    simp only [d54, d58]
    go_wp2
    first
      | exact ⟨rfl, RB.refl _⟩
      | exact ⟨by trivial, rfl, RB.refl _⟩
  case q60 =>
    intro vals V hR hL
    generalize hgo : wpOp Try.prog _ _ _ _ _ _ = G
    have d54 : vals 54 = Value.bool true := hL 54 rfl
    have d59 : vals 59 = Value.bool true := hL 59 rfl
    subst hgo
    refine wpOp_of_list (o := ?oI60) ?hoI60 ?hI60
    case hoI60 => exact Array.getElem?_eq_getElem (of_decide_eq_true (by kernel_rfl))
    rw [san_act6]
    simp only [d54, d59]
    go_wp2
    first
      | exact ⟨rfl, RB.refl _⟩
      | exact ⟨by trivial, rfl, RB.refl _⟩
  case q61 =>
    intro vals V hR hL
    generalize hgo : wpOp Try.prog _ _ _ _ _ _ = G
    have d60 : vals 60 = Value.bool true := hL 60 rfl
    subst hgo
    refine wpOp_of_list (o := ?oI61) ?hoI61 ?hI61
    case hoI61 => exact Array.getElem?_eq_getElem (of_decide_eq_true (by kernel_rfl))
    rw [san_act6]
    simp only [d60]
    go_wp2
    first
      | exact ⟨rfl, RB.refl _⟩
      | exact ⟨by trivial, rfl, RB.refl _⟩
  case e6 => exact fun vals V hR hL => hend vals V hR (hL 61 (by decide))
end Go.Proofs.Ytgndbpkgehjelaa
/- law13.sanity: the examples. -/
namespace Go.Proofs.Ytgndbpkgehjelaa
open Go.RowKit Go.Sort Go.Shelf
/-- What region 4 has made when L are listed. -/
structure SanInv (W : World) (L : Nat → Bool) (vals : Nat → Value) (w : World) : Prop where
  rb : RB W w
  v0 : L 0 = true → vals 0 = vT exT
  v1 : L 1 = true → vals 1 = vT exR
  v2 : L 2 = true → vals 2 = vT exU
  v3 : L 3 = true → vals 3 = vT exS
  v4 : L 4 = true → ∃ b, vals 4 = .pointer (some ⟨b, 0, none⟩) ∧ W.heap.size ≤ b ∧ (L 6 = false → Blk w b 26 (encT ((0, 0, 0), (0, 0, 0), (0, 0, 0))).toArray) ∧ (L 6 = true → Blk w b 26 (encT exR).toArray) ∧ b < w.heap.size
  v5 : L 5 = true → ∃ b, vals 5 = .pointer (some ⟨b, 0, none⟩) ∧ W.heap.size ≤ b ∧ (L 7 = false → Blk w b 26 (encT ((0, 0, 0), (0, 0, 0), (0, 0, 0))).toArray) ∧ (L 7 = true → Blk w b 26 (encT exS).toArray) ∧ b < w.heap.size
  ne : L 4 = true → L 5 = true → vals 4 ≠ vals 5
  six : L 6 = true → L 4 = true ∧ L 5 = true
  seven : L 7 = true → ∀ j, j < 7 → L j = true
theorem SanInv.start (W : World) : SanInv W (fun _ => false) (fun _ => undef) W :=
  ⟨RB.refl _, (fun h => nomatch h), (fun h => nomatch h), (fun h => nomatch h), (fun h => nomatch h), (fun h => nomatch h), (fun h => nomatch h), (fun h => nomatch h), (fun h => nomatch h), (fun h => nomatch h)⟩
theorem SanInv.step {W : World} {L : Nat → Bool} {vals : Nat → Value} {w w' : World} (h : SanInv W L vals w) (hR : RB w w') (i : Nat) (hi : i < 4) (v : Value) (hv : v = vT (if i = 0 then exT else if i = 1 then exR else if i = 2 then exU else exS)) : SanInv W (also L i) (withV vals i v) w' := by
  have hb : ∀ b cs, Blk w b 26 cs → Blk w' b 26 cs := fun b cs h => h.below hR h.lt
  have hsz := hR.size
  have hc : i = 0 ∨ i = 1 ∨ i = 2 ∨ i = 3 := by omega
  have h4 : L 4 = true → ∃ b, vals 4 = .pointer (some ⟨b, 0, none⟩) ∧ W.heap.size ≤ b ∧ (L 6 = false → Blk w' b 26 (encT ((0, 0, 0), (0, 0, 0), (0, 0, 0))).toArray) ∧ (L 6 = true → Blk w' b 26 (encT exR).toArray) ∧ b < w'.heap.size := fun hl => by
    obtain ⟨b, e, h1, h2, h3, h5⟩ := h.v4 hl
    exact ⟨b, e, h1, fun hh => hb _ _ (h2 hh), fun hh => hb _ _ (h3 hh), by omega⟩
  have h5 : L 5 = true → ∃ b, vals 5 = .pointer (some ⟨b, 0, none⟩) ∧ W.heap.size ≤ b ∧ (L 7 = false → Blk w' b 26 (encT ((0, 0, 0), (0, 0, 0), (0, 0, 0))).toArray) ∧ (L 7 = true → Blk w' b 26 (encT exS).toArray) ∧ b < w'.heap.size := fun hl => by
    obtain ⟨b, e, h1, h2, h3, h5⟩ := h.v5 hl
    exact ⟨b, e, h1, fun hh => hb _ _ (h2 hh), fun hh => hb _ _ (h3 hh), by omega⟩
  have h7 : ∀ i, L 7 = true → ∀ j, j < 7 → also L i j = true := fun i hh j hj => by
    unfold also
    split
    · rfl
    · exact h.seven hh j hj
  subst hv
  rcases hc with rfl | rfl | rfl | rfl
  · exact ⟨h.rb.trans _ _ _ hR, fun _ => rfl, h.v1, h.v2, h.v3, h4, h5, h.ne, h.six, h7 _⟩
  · exact ⟨h.rb.trans _ _ _ hR, h.v0, fun _ => rfl, h.v2, h.v3, h4, h5, h.ne, h.six, h7 _⟩
  · exact ⟨h.rb.trans _ _ _ hR, h.v0, h.v1, fun _ => rfl, h.v3, h4, h5, h.ne, h.six, h7 _⟩
  · exact ⟨h.rb.trans _ _ _ hR, h.v0, h.v1, h.v2, fun _ => rfl, h4, h5, h.ne, h.six, h7 _⟩
theorem SanInv.alloc4 {W : World} {L : Nat → Bool} {vals : Nat → Value} {w : World} (h : SanInv W L vals w) (h4 : L 4 = false) :
    SanInv W (also L 4) (withV vals 4 (.pointer (some ⟨w.heap.size, 0, none⟩))) (w.alloc (.cells (encT ((0, 0, 0), (0, 0, 0), (0, 0, 0))).toArray 26)) := by
  have h6 : L 6 = false := by
    cases h6 : L 6 with
    | false => rfl
    | true => have := (h.six h6).1; rw [h4] at this; cases this
  refine ⟨h.rb.trans _ _ _ (RB.alloc _ _), h.v0, h.v1, h.v2, h.v3, fun _ => ⟨_, rfl, h.rb.size, fun _ => Blk.new _ _ _, fun hh => ?_, by simp⟩, fun hl => ?_, fun _ hl he => ?_, fun hh => ?_, fun hh => ?_⟩
  · have : L 6 = true := hh
    rw [h6] at this; cases this
  · obtain ⟨b, e, h1, h2, h3, h5⟩ := h.v5 hl
    exact ⟨b, e, h1, fun hh => (h2 hh).alloc _, fun hh => (h3 hh).alloc _, by simp; omega⟩
  · obtain ⟨b, e, h1, h2, h3, h5⟩ := h.v5 hl
    have he : Value.pointer (some ⟨w.heap.size, 0, none⟩) = vals 5 := he
    rw [e] at he
    injection he with he; injection he with he; injection he with he
    omega
  · have : L 6 = true := hh
    rw [h6] at this; cases this
  · have := h.seven hh 4 (by omega)
    rw [h4] at this; cases this
theorem SanInv.alloc5 {W : World} {L : Nat → Bool} {vals : Nat → Value} {w : World} (h : SanInv W L vals w) (h5 : L 5 = false) :
    SanInv W (also L 5) (withV vals 5 (.pointer (some ⟨w.heap.size, 0, none⟩))) (w.alloc (.cells (encT ((0, 0, 0), (0, 0, 0), (0, 0, 0))).toArray 26)) := by
  have h6 : L 6 = false := by
    cases h6 : L 6 with
    | false => rfl
    | true => have := (h.six h6).2; rw [h5] at this; cases this
  refine ⟨h.rb.trans _ _ _ (RB.alloc _ _), h.v0, h.v1, h.v2, h.v3, fun hl => ?_, fun _ => ⟨_, rfl, h.rb.size, fun _ => Blk.new _ _ _, fun hh => ?_, by simp⟩, fun hl _ he => ?_, fun hh => ?_, fun hh => ?_⟩
  · obtain ⟨b, e, h1, h2, h3, h7⟩ := h.v4 hl
    exact ⟨b, e, h1, fun hh => (h2 hh).alloc _, fun hh => (h3 hh).alloc _, by simp; omega⟩
  · have := h.seven hh 5 (by omega)
    rw [h5] at this; cases this
  · obtain ⟨b, e, h1, h2, h3, h7⟩ := h.v4 hl
    have he : vals 4 = Value.pointer (some ⟨w.heap.size, 0, none⟩) := he
    rw [e] at he
    injection he with he; injection he with he; injection he with he
    omega
  · have : L 6 = true := hh
    rw [h6] at this; cases this
  · have := h.seven hh 5 (by omega)
    rw [h5] at this; cases this
set_option maxRecDepth 100000 in
set_option maxHeartbeats 40000000 in
theorem sanity_any (w : World) : Calls Try.prog 12 #[] w fun e w' => e = .returned (.bool true) ∧ Below w.heap.size w w' := by
  go_enter Try.func12, Try.ntmps12
  go_wp2_with fail
  obtain ⟨W1, hW1⟩ : ∃ W1, W1 = w.alloc (.cells #[.int .i64 5, .int .i64 9, .int .i64 1, .int .i64 2, .int .i64 12, .int .i64 1, .int .i64 6, .int .i64 10, .int .i64 3] 26) := ⟨_, rfl⟩
  rw [← hW1]
  have hb1 : Blk W1 w.heap.size 26 (encT exT).toArray := by rw [hW1]; exact Blk.new _ _ _
  have hR1 : RB w W1 := by rw [hW1]; exact RB.alloc _ _
  have hz1 : W1.heap.size = w.heap.size + 1 := by rw [hW1]; simp
  obtain ⟨W2, hW2⟩ : ∃ W2, W2 = W1.alloc (.cells #[.int .i64 5, .int .i64 9, .int .i64 1, .int .i64 2, .int .i64 12, .int .i64 1, .int .i64 6, .int .i64 10, .int .i64 3] 26) := ⟨_, rfl⟩
  rw [← hW2]
  have hb2 : Blk W2 (w.heap.size + 1) 26 (encT exT).toArray := by rw [hW2, ← hz1]; exact Blk.new _ _ _
  have hb1' : Blk W2 w.heap.size 26 (encT exT).toArray := by rw [hW2]; exact hb1.alloc _
  have hR2 : RB w W2 := by rw [hW2]; exact hR1.trans _ _ _ (RB.alloc _ _)
  have hz2 : W2.heap.size = w.heap.size + 2 := by rw [hW2]; simp [hz1]
  have hs2 : Sl encT 9 W2 W2.heap.size (some ⟨w.heap.size + 1, 0, none⟩) [exT] := Sl.ofBlk encT_len hb2 rfl
  clear hW1 hW2 hb1 hR1
  refine (moved_any _ 1 [exT] (8, 0, 0) W2 hs2 (by decide)).mono ?_
  rintro e w3 ⟨u, rfl, hown, hB3⟩
  simp only [List.map_cons, List.map_nil, ex_moved, List.length_cons, List.length_nil, Nat.zero_add] at hown
  obtain ⟨g, cap, rfl, hg, hg3⟩ := hown.at (by simp)
  have hR3 : RB w w3 := hR2.trans _ _ _ hB3
  have hb3 := hb1'.below hB3 (by omega)
  obtain ⟨b', o', hA, _, hc⟩ := (hown.sl encT_len (Nat.le_refl _)).tri (i := 0) rfl
  cases hA
  have hw3 : w.heap.size + 2 ≤ w3.heap.size := by have := hB3.size; omega
  obtain ⟨c0, c1, c2, c3, c4, c5, c6, c7, c8⟩ := hc
  simp only [Nat.zero_mul, Nat.add_zero, Nat.zero_add] at c0 c1 c2 c3 c4 c5 c6 c7 c8
  have t0 := (cells9 hb3).1
  have t1 := (cells9 hb3).2.1
  have t2 := (cells9 hb3).2.2.1
  have t3 := (cells9 hb3).2.2.2.1
  have t4 := (cells9 hb3).2.2.2.2.1
  have t5 := (cells9 hb3).2.2.2.2.2.1
  have t6 := (cells9 hb3).2.2.2.2.2.2.1
  have t7 := (cells9 hb3).2.2.2.2.2.2.2.1
  have t8 := (cells9 hb3).2.2.2.2.2.2.2.2
  simp only [Nat.zero_add] at t0 t1 t2 t3 t4 t5 t6 t7 t8
  have H := hide (And.intro hR3 hb3)
  clear hR3 hb3 hR2 hb1' hb2 hs2 hB3 hown hz2 hz1
  have hlt0 : w.heap.size < w3.heap.size := by omega
  have hne : w3.heap.size ≠ w.heap.size := by omega
  have hne2 : w.heap.size ≠ w3.heap.size := by omega
  go_wp2_with fail
  obtain ⟨W5, hW5⟩ : ∃ W5, W5 = (w3.alloc (.cells #[.int .i64 exU.1.1, .int .i64 exU.1.2.1, .int .i64 exU.1.2.2, .int .i64 exU.2.1.1, .int .i64 exU.2.1.2.1, .int .i64 exU.2.1.2.2, .int .i64 exU.2.2.1, .int .i64 exU.2.2.2.1, .int .i64 exU.2.2.2.2] 26)).alloc (.cells #[.int .i64 exT.1.1, .int .i64 exT.1.2.1, .int .i64 exT.1.2.2, .int .i64 exT.2.1.1, .int .i64 exT.2.1.2.1, .int .i64 exT.2.1.2.2, .int .i64 exT.2.2.1, .int .i64 exT.2.2.2.1, .int .i64 exT.2.2.2.2] 26) := ⟨_, rfl⟩
  rw [← hW5]
  have hR5 : RB w W5 := by rw [hW5]; exact (H.out.1.trans _ _ _ (RB.alloc _ _)).trans _ _ _ (RB.alloc _ _)
  have hT5 : Blk W5 w.heap.size 26 (encT exT).toArray := by rw [hW5]; exact (H.out.2.alloc _).alloc _
  have hU5 : Blk W5 w3.heap.size 26 (encT exU).toArray := by rw [hW5]; exact (Blk.new w3 26 (encT exU).toArray).alloc _
  have hL5 : Blk W5 (w3.heap.size + 1) 26 (encT exT).toArray := by rw [hW5]; exact Blk.new' _ _ _ _ (by simp)
  clear H hW5 c0 c1 c2 c3 c4 c5 c6 c7 c8 t0 t1 t2 t3 t4 t5 t6 t7 t8 hne hne2
  have H := hide (show RB w W5.drew ∧ Blk W5.drew w.heap.size 26 (encT exT).toArray ∧ Blk W5.drew w3.heap.size 26 (encT exU).toArray ∧ Blk W5.drew (w3.heap.size + 1) 26 (encT exT).toArray from ⟨hR5.trans _ _ _ (RB.drew _), hT5, hU5, hL5⟩)
  clear hR5 hT5 hU5 hL5
  refine wp_region_inv (rs := [0, 1, 2, 3, 4, 5, 6, 7]) (ms := [0, 1, 0, 7, 0, 0, 63, 127]) (ds := [(0, 19), (1, 20), (2, 21), (3, 22), (4, 4), (5, 5)]) (SanInv W5.drew) mixed_ok (by kernel_rfl) (SanInv.start _) ⟨?s0, ?s1, ?s2, ?s3, ?s4, ?s5, ?s6, ?s7, trivial⟩ ?e
  case s0 =>
    intro L vals V hLi hL hI
    have HI := hide hI
    clear hI
    obtain ⟨t0, t1, t2, t3, t4, t5, t6, t7, t8⟩ := cells9 (H.out.2.1.below HI.out.rb H.out.2.1.lt)
    simp only [Nat.zero_add] at t0 t1 t2 t3 t4 t5 t6 t7 t8
    refine wpOp_of_list rfl ?_
    rw [san_act4]
    go_wp2
    exact ⟨by trivial, HI.out.step (RB.refl _) 0 (by omega) _ rfl⟩
  case s1 =>
    intro L vals V hLi hL hI
    have hv : vals 0 = vT exT := hI.v0 (hL 0 rfl)
    have HI := hide hI
    clear hI
    refine wpOp_of_list rfl ?_
    rw [san_act4]
    simp only [hv]
    go_wp2_with fail
    refine (rotateR_any exT V).mono ?_
    rintro e w' ⟨rfl, hB'⟩
    rw [ex_rotT]
    go_wp2
    exact ⟨by trivial, HI.out.step hB' 1 (by omega) _ rfl⟩
  case s2 =>
    intro L vals V hLi hL hI
    have HI := hide hI
    clear hI
    obtain ⟨t0, t1, t2, t3, t4, t5, t6, t7, t8⟩ := cells9 (H.out.2.2.1.below HI.out.rb H.out.2.2.1.lt)
    simp only [Nat.zero_add] at t0 t1 t2 t3 t4 t5 t6 t7 t8
    refine wpOp_of_list rfl ?_
    rw [san_act4]
    go_wp2
    exact ⟨by trivial, HI.out.step (RB.refl _) 2 (by omega) _ rfl⟩
  case s3 =>
    intro L vals V hLi hL hI
    have hv : vals 2 = vT exU := hI.v2 (hL 2 rfl)
    have HI := hide hI
    clear hI
    refine wpOp_of_list rfl ?_
    rw [san_act4]
    simp only [hv]
    go_wp2_with fail
    refine (rotateR_any exU V).mono ?_
    rintro e w' ⟨rfl, hB'⟩
    rw [ex_rotU]
    go_wp2
    exact ⟨by trivial, HI.out.step hB' 3 (by omega) _ rfl⟩
  case s4 =>
    intro L vals V hLi hL hI
    have HI := hide hI
    clear hI
    refine wpOp_of_list rfl ?_
    rw [san_act4]
    go_wp2
    exact ⟨by trivial, HI.out.alloc4 hLi⟩
  case s5 =>
    intro L vals V hLi hL hI
    have HI := hide hI
    clear hI
    refine wpOp_of_list rfl ?_
    rw [san_act4]
    go_wp2
    exact ⟨by trivial, HI.out.alloc5 hLi⟩
  case s6 =>
    intro L vals V hLi hL hI
    have hv : vals 1 = vT exR := hI.v1 (hL 1 rfl)
    obtain ⟨b, h4, hbW, hbz, _, hblt⟩ := hI.v4 (hL 4 rfl)
    have hz := hbz hLi
    obtain ⟨z0, z1, z2, z3, z4, z5, z6, z7, z8⟩ := cells9 hz
    simp only [Nat.zero_add] at z0 z1 z2 z3 z4 z5 z6 z7 z8
    have f0 := hz.frozen 0
    have f1 := hz.frozen 1
    have f2 := hz.frozen 2
    have f3 := hz.frozen 3
    have f4 := hz.frozen 4
    have f5 := hz.frozen 5
    have f6 := hz.frozen 6
    have f7 := hz.frozen 7
    have f8 := hz.frozen 8
    have HI := hide (And.intro hI hz)
    clear hI hbz hz
    refine wpOp_of_list rfl ?_
    rw [san_act4]
    simp only [hv, h4]
    go_wp2
    refine ⟨by trivial, ?_⟩
    have hRB : RB W5.drew (((((((((V.setCell ⟨b, 0, none⟩ (.int .i64 exR.1.1)).setCell ⟨b, 1, none⟩ (.int .i64 exR.1.2.1)).setCell ⟨b, 2, none⟩ (.int .i64 exR.1.2.2)).setCell ⟨b, 3, none⟩ (.int .i64 exR.2.1.1)).setCell ⟨b, 4, none⟩ (.int .i64 exR.2.1.2.1)).setCell ⟨b, 5, none⟩ (.int .i64 exR.2.1.2.2)).setCell ⟨b, 6, none⟩ (.int .i64 exR.2.2.1)).setCell ⟨b, 7, none⟩ (.int .i64 exR.2.2.2.1)).setCell ⟨b, 8, none⟩ (.int .i64 exR.2.2.2.2)) := below_set9 HI.out.1.rb hbW _ _ _ _ _ _ _ _ _
    have hset := HI.out.2.set9 (.int .i64 exR.1.1) (.int .i64 exR.1.2.1) (.int .i64 exR.1.2.2) (.int .i64 exR.2.1.1) (.int .i64 exR.2.1.2.1) (.int .i64 exR.2.1.2.2) (.int .i64 exR.2.2.1) (.int .i64 exR.2.2.2.1) (.int .i64 exR.2.2.2.2)
    have hI := HI.out.1
    have hl4 := hL 4 rfl
    have hl5 := hL 5 rfl
    refine ⟨hRB, hI.v0, hI.v1, hI.v2, hI.v3, fun _ => ⟨b, h4, hbW, fun hh => ?_, fun _ => hset, hset.lt⟩, fun hl => ?_, hI.ne, fun _ => ⟨hl4, hl5⟩, fun hh j hj => ?_⟩
    · cases (show true = false from hh)
    · obtain ⟨b5, e5, hb5, hz5, hs5, hlt5⟩ := hI.v5 hl5
      have hne : b5 ≠ b := fun e => hI.ne hl4 hl5 (by rw [h4, e5, e])
      exact ⟨b5, e5, hb5, fun hh => (hz5 hh).far9 hne _ _ _ _ _ _ _ _ _, fun hh => (hs5 hh).far9 hne _ _ _ _ _ _ _ _ _, by have := hRB.size; have := hset.lt; simp; omega⟩
    · have := hI.seven hh j hj
      unfold also
      split
      · rfl
      · exact this
  case s7 =>
    intro L vals V hLi hL hI
    have hv : vals 3 = vT exS := hI.v3 (hL 3 rfl)
    obtain ⟨b, h4, hbW, hbz, _, hblt⟩ := hI.v5 (hL 5 rfl)
    have hz := hbz hLi
    obtain ⟨z0, z1, z2, z3, z4, z5, z6, z7, z8⟩ := cells9 hz
    simp only [Nat.zero_add] at z0 z1 z2 z3 z4 z5 z6 z7 z8
    have f0 := hz.frozen 0
    have f1 := hz.frozen 1
    have f2 := hz.frozen 2
    have f3 := hz.frozen 3
    have f4 := hz.frozen 4
    have f5 := hz.frozen 5
    have f6 := hz.frozen 6
    have f7 := hz.frozen 7
    have f8 := hz.frozen 8
    have HI := hide (And.intro hI hz)
    clear hI hbz hz
    refine wpOp_of_list rfl ?_
    rw [san_act4]
    simp only [hv, h4]
    go_wp2
    refine ⟨by trivial, ?_⟩
    have hRB : RB W5.drew (((((((((V.setCell ⟨b, 0, none⟩ (.int .i64 exS.1.1)).setCell ⟨b, 1, none⟩ (.int .i64 exS.1.2.1)).setCell ⟨b, 2, none⟩ (.int .i64 exS.1.2.2)).setCell ⟨b, 3, none⟩ (.int .i64 exS.2.1.1)).setCell ⟨b, 4, none⟩ (.int .i64 exS.2.1.2.1)).setCell ⟨b, 5, none⟩ (.int .i64 exS.2.1.2.2)).setCell ⟨b, 6, none⟩ (.int .i64 exS.2.2.1)).setCell ⟨b, 7, none⟩ (.int .i64 exS.2.2.2.1)).setCell ⟨b, 8, none⟩ (.int .i64 exS.2.2.2.2)) := below_set9 HI.out.1.rb hbW _ _ _ _ _ _ _ _ _
    have hset := HI.out.2.set9 (.int .i64 exS.1.1) (.int .i64 exS.1.2.1) (.int .i64 exS.1.2.2) (.int .i64 exS.2.1.1) (.int .i64 exS.2.1.2.1) (.int .i64 exS.2.1.2.2) (.int .i64 exS.2.2.1) (.int .i64 exS.2.2.2.1) (.int .i64 exS.2.2.2.2)
    have hI := HI.out.1
    have hl4 := hL 4 rfl
    have hl5 := hL 5 rfl
    have hl6 := hL 6 rfl
    refine ⟨hRB, hI.v0, hI.v1, hI.v2, hI.v3, fun hl => ?_, fun _ => ⟨b, h4, hbW, fun hh => ?_, fun _ => hset, hset.lt⟩, hI.ne, hI.six, fun _ j hj => ?_⟩
    · obtain ⟨b5, e5, hb5, hz5, hs5, hlt5⟩ := hI.v4 hl4
      have hne : b5 ≠ b := fun e => hI.ne hl4 hl5 (by rw [h4, e5, e])
      exact ⟨b5, e5, hb5, fun hh => (hz5 hh).far9 hne _ _ _ _ _ _ _ _ _, fun hh => (hs5 hh).far9 hne _ _ _ _ _ _ _ _ _, by have := hRB.size; have := hset.lt; simp; omega⟩
    · cases (show true = false from hh)
    · have hc : j = 0 ∨ j = 1 ∨ j = 2 ∨ j = 3 ∨ j = 4 ∨ j = 5 ∨ j = 6 := by omega
      rcases hc with rfl | rfl | rfl | rfl | rfl | rfl | rfl
      all_goals exact hL _ rfl
  case e =>
    intro L vals V hL hI
    have v1 := hI.v1 (hL 1 (by decide))
    have v3 := hI.v3 (hL 3 (by decide))
    obtain ⟨b4, h4, hbW4, _, hr4, _⟩ := hI.v4 (hL 4 (by decide))
    obtain ⟨b5, h5, hbW5, _, hs5, _⟩ := hI.v5 (hL 5 (by decide))
    have hr4 := hr4 (hL 6 (by decide))
    have hs5 := hs5 (hL 7 (by decide))
    have hT := H.out.2.1.below hI.rb H.out.2.1.lt
    have hU := H.out.2.2.1.below hI.rb H.out.2.2.1.lt
    have hLl := H.out.2.2.2.below hI.rb H.out.2.2.2.lt
    have hR : RB w V := H.out.1.trans _ _ _ hI.rb
    have v0 := hI.v0 (hL 0 (by decide))
    have v2 := hI.v2 (hL 2 (by decide))
    rw [san_act4]
    simp only [v0, v1, v2, v3, h4, h5]
    obtain ⟨t0, t1, t2, t3, t4, t5, t6, t7, t8⟩ := cells9 hT
    simp only [Nat.zero_add] at t0 t1 t2 t3 t4 t5 t6 t7 t8
    clear H hlt0 hw3 hg hg3 hL
    have H := hide (And.intro hR (And.intro hT (And.intro hU (And.intro hLl (And.intro hr4 hs5)))))
    clear hR hT hU hLl hr4 hs5 hI v0 v1 v2 v3 h4 h5 hbW4 hbW5
    go_wp2_with fail
    obtain ⟨V6, hV6⟩ : ∃ V6, V6 = V.alloc (.cells (((encT exT ++ encT exT) ++ (encT exT ++ encT exT)) ++ encT exT).toArray 26) := ⟨_, rfl⟩
    have hs6 : Sl encT 9 V6 V6.heap.size (some ⟨V.heap.size, 0, none⟩) [exT, exT, exT, exT, exT] := by rw [hV6]; exact Sl.ofBlk encT_len (Blk.new _ _ _) rfl
    have hRV : RB V V6 := by rw [hV6]; exact RB.alloc _ _
    clear t0 t1 t2 t3 t4 t5 t6 t7 t8
    refine Calls.mono (hV6 ▸ split_any (some ⟨V.heap.size, 0, none⟩) 5 2 [exT, exT, exT, exT, exT] V6 hs6 (by decide) (by decide)) ?_
    rintro e w7 ⟨v, rfl, hp, hB7⟩
    rw [ex_split] at hp
    obtain ⟨Ar, cr, rfl, hcr, hlr⟩ := hp.lst encT_len
    have hB7' : RB V6 w7 := by rw [hV6]; exact hB7
    have hR7 : RB V w7.drew := (hRV.trans _ _ _ hB7').trans _ _ _ (RB.drew _)
    have H7 := hide (show RB w w7.drew ∧ Blk w7.drew w.heap.size 26 (encT exT).toArray ∧ Blk w7.drew w3.heap.size 26 (encT exU).toArray ∧ Blk w7.drew (w3.heap.size + 1) 26 (encT exT).toArray ∧ Blk w7.drew b4 26 (encT exR).toArray ∧ Blk w7.drew b5 26 (encT exS).toArray ∧ Word.met (.lists [[exR, exR], [exR, exR], [exR]]) (.slice Ar 3 cr) w7.drew from
      ⟨H.out.1.trans _ _ _ hR7, H.out.2.1.below hR7 H.out.2.1.lt, H.out.2.2.1.below hR7 H.out.2.2.1.lt, H.out.2.2.2.1.below hR7 H.out.2.2.2.1.lt, H.out.2.2.2.2.1.below hR7 H.out.2.2.2.2.1.lt, H.out.2.2.2.2.2.below hR7 H.out.2.2.2.2.2.lt, _, _, rfl, hcr, hlr⟩)
    clear H hp hcr hlr hR7 hB7 hB7' hRV hs6 hV6
    have H := H7
    clear H7
    go_wp2_with fail
    refine san_r6 _ ?hops _ _ _ _ _ _ _ _ _ _ _ _ _ _ _ _ _ _ _ _ _ _ _ _ _ _ _ _ _ _ _ _ _ _ _ _ _ _ _ _ _ _ _ _ _ _ _ _ _ _ _ _ _ _ _ _ _ _ _ _ _ _ _ _ _ _ _ _ _ _ _ _ _ _ _ _ _ _ _ _ _ _ _ _ _ _ _ _ w.heap.size w3.heap.size (w3.heap.size + 1) b4 b5 cr Ar (hide H.out.2) ?hend
    case hops => kernel_rfl
    intro vals V hR d61
    have hRw : RB w V := H.out.1.trans _ _ _ hR
    rw [san_act6]
    simp only [d61]
    go_wp2
    go_ret
    exact ⟨rfl, hRw⟩
end Go.Proofs.Ytgndbpkgehjelaa
