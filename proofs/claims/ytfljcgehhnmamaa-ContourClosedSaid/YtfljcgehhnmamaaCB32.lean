/- Joined texts: Ex8 Idx8 San8. -/
import Derived.IntWalk
import Derived.Test.YtfljcgehhnmamaaCB3
import Derived.Test.YtfljcgehhnmamaaCB27
import Derived.Test.YtfljcgehhnmamaaCB31
/- Layer 8: the examples of the chapter, evaluated. No program. -/
namespace Go.Proofs.Ytfljcgehhnmamaa
open Go.RowKit
/-- Insertion into an ordered list. -/
def insT (x : Tri) : List Tri → List Tri
  | [] => [x]
  | y :: l => if ltT y x then y :: insT x l else x :: y :: l
def isortT (l : List Tri) : List Tri := l.foldr insT []
theorem insT_perm (x : Tri) (l : List Tri) : (insT x l).Perm (x :: l) := by
  induction l with
  | nil => exact .refl _
  | cons y l ih =>
    unfold insT
    split
    · exact (ih.cons y).trans (.swap x y l)
    · exact .refl _
theorem insT_sorted {x : Tri} {l : List Tri} (h : l.Pairwise (fun a b => leO ltT a b = true)) : (insT x l).Pairwise (fun a b => leO ltT a b = true) := by
  induction l with
  | nil => simp [insT]
  | cons y l ih =>
    have hp := List.pairwise_cons.1 h
    unfold insT
    split
    · rename_i hlt
      refine List.pairwise_cons.2 ⟨fun b hb => ?_, ih hp.2⟩
      rcases List.mem_cons.1 ((insT_perm x l).mem_iff.1 hb) with rfl | hb
      · unfold leO
        cases hc : ltT b y with
        | false => rfl
        | true => have := tot_T.tr _ _ _ hlt hc; rw [tot_T.irr] at this; cases this
      · exact hp.1 b hb
    · rename_i hlt
      have hxy : leO ltT x y = true := by unfold leO; simpa using hlt
      refine List.pairwise_cons.2 ⟨fun b hb => ?_, h⟩
      rcases List.mem_cons.1 hb with rfl | hb
      · exact hxy
      · exact tot_T.le_trans _ _ _ hxy (hp.1 b hb)
theorem isortT_perm (l : List Tri) : (isortT l).Perm l := by
  induction l with
  | nil => exact .refl _
  | cons x l ih => exact (insT_perm x _).trans (ih.cons x)
theorem isortT_sorted (l : List Tri) : (isortT l).Pairwise (fun a b => leO ltT a b = true) := by
  induction l with
  | nil => exact List.Pairwise.nil
  | cons x l ih => exact insT_sorted ih
theorem canonT_eval (ts : List Tri) : canonT ts = isortT (ts.map rotT) := (tot_T.uniq (isortT_perm _) (isortT_sorted _)).symm
def oneF : List Bool := (List.replicate 27 false).set 13 true
def wrongF : List Bool := (List.replicate 27 false).set 12 true
def twoF : List Bool := ((List.replicate 125 false).set 31 true).set 32 true
def contourE (L : Int) (F : List Bool) : List Tri := if validF L F = true then isortT ((ctrL F (2 ^ L.toNat) ((2 ^ (21 - L.toNat) : Nat) : Int) (2 ^ L.toNat * 2 ^ L.toNat * 2 ^ L.toNat)).map rotT) else []
theorem contourE_eq (L : Int) (F : List Bool) : contourP L F = contourE L F := by
  unfold contourP contourE
  rw [canonT_eval]
set_option maxRecDepth 100000 in
theorem ex_one : (contourE 1 oneF).length = 8 ∧ checkP (contourE 1 oneF) false = 0 ∧ (cornersP (contourE 1 oneF)).length = 6 ∧ (cornersP (contourE 1 oneF))[0]? = some (524288, 1048576, 1048576) := by decide +kernel
def fitsB (t : Tri) : Bool := [t.1.1, t.1.2.1, t.1.2.2, t.2.1.1, t.2.1.2.1, t.2.1.2.2, t.2.2.1, t.2.2.2.1, t.2.2.2.2].all fun x => decide (-9223372036854775808 ≤ x ∧ x ≤ 9223372036854775807)
set_option maxRecDepth 100000 in
theorem ex_fitsB : (contourE 1 oneF).all fitsB = true := by decide +kernel
theorem ex_fits : ∀ t ∈ contourE 1 oneF, fitsT t := by
  intro t ht
  have h := List.all_eq_true.1 ex_fitsB t ht
  unfold fitsB at h
  simp only [List.all_cons, List.all_nil, Bool.and_eq_true, decide_eq_true_eq] at h
  obtain ⟨h0, h1, h2, h3, h4, h5, h6, h7, h8, _⟩ := h
  exact ⟨⟨h0, h1, h2⟩, ⟨h3, h4, h5⟩, h6, h7, h8⟩
set_option maxRecDepth 100000 in
theorem ex_wrong : contourE 1 wrongF = [] := by decide +kernel
set_option maxRecDepth 100000 in
theorem ex_two : (contourE 2 twoF).length = 24 := by decide +kernel
end Go.Proofs.Ytfljcgehhnmamaa
/- ref08.Index, Level; a field in its box. -/
namespace Go.Proofs.Ytfljcgehhnmamaa
open Go.RowKit Go.Sort
def idxP (l x y z : Nat) : Nat := (z * (2 ^ l + 1) + y) * (2 ^ l + 1) + x
set_option maxRecDepth 100000 in
set_option maxHeartbeats 4000000 in
theorem index_any (l x y z : Nat) (hl1 : 1 ≤ l) (hl3 : l ≤ 3) (hx : x ≤ 1000) (hy : y ≤ 1000) (hz : z ≤ 1000) (w : World) :
    Calls Try.prog 17 #[.int .i64 l, .int .i64 x, .int .i64 y, .int .i64 z] w fun e w' => e = .returned (.int .i64 (idxP l x y z : Nat)) ∧ w' = w := by
  have hc : l = 1 ∨ l = 2 ∨ l = 3 := by omega
  rcases hc with rfl | rfl | rfl
  · have he : ((idxP 1 x y z : Nat) : Int) = (z * 3 + y) * 3 + x := by unfold idxP; push_cast; rfl
    rw [he]
    clear he
    go_enter Try.func17, Try.ntmps17
    go_wp2
    go_ret
    exact ⟨rfl, rfl⟩
  · have he : ((idxP 2 x y z : Nat) : Int) = (z * 5 + y) * 5 + x := by unfold idxP; push_cast; rfl
    rw [he]
    clear he
    go_enter Try.func17, Try.ntmps17
    go_wp2
    go_ret
    exact ⟨rfl, rfl⟩
  · have he : ((idxP 3 x y z : Nat) : Int) = (z * 9 + y) * 9 + x := by unfold idxP; push_cast; rfl
    rw [he]
    clear he
    go_enter Try.func17, Try.ntmps17
    go_wp2
    go_ret
    exact ⟨rfl, rfl⟩
theorem flat_bl (F : List Bool) : F.flatMap encBl = F.map Value.bool := by
  induction F with
  | nil => rfl
  | cons b F ih => rw [List.flatMap_cons, ih]; rfl
theorem encBl_len (b : Bool) : (encBl b).length = 1 := rfl
theorem infoBl8 : (Try.prog.info? 4).map (fun i => (i.zero, i.size, i.bytes)) = some (some (.bool false), 1, 1) := by kernel_rfl
theorem mk_bl (n : Nat) (hn : n ≤ 1000000) (W : World) : (Instr.makeSlice 24 (.int .i64 (n : Int)) (.int .i64 (n : Int))).run Try.prog W = .ok (.slice (some ⟨W.heap.size, 0, none⟩) n n) (W.alloc (.cells ((List.replicate n false).map Value.bool).toArray 4)) := by
  obtain ⟨i, hi, hz, hs, hb⟩ := info_parts infoBl8
  have h := run_make (P := Try.prog) W 24 4 i (.bool false) Try.underlying24 hi hz .i64 .i64 n n (by omega) (by omega) (by rw [hb]; omega) (by omega)
  rw [h, hs]
  have e : madeCells (Value.bool false).cells ((n : Int).toNat * 1) = ((List.replicate n false).map Value.bool).toArray := by
    refine Array.ext (by simp [size_madeCells]) fun k h1 h2 => ?_
    simp [madeCells, Value.cells, Nat.mod_one]
  rw [e, Int.toNat_natCast]
/-- A field in a box of its own. -/
structure FBox (w : World) (gf g : Nat) (L : Int) (F : List Bool) : Prop where
  box : Blk w gf 26 #[.int .i64 L, .slice (some ⟨g, 0, none⟩) F.length F.length]
  row : Blk w g 4 (F.map Value.bool).toArray
section
variable {w w' : World} {gf g : Nat} {L : Int} {F : List Bool}
theorem FBox.sl (h : FBox w gf g L F) {B : Nat} (hB : w.heap.size ≤ B) : Sl encBl 1 w B (some ⟨g, 0, none⟩) F :=
  Sl.of_blk encBl_len (by rw [flat_bl]; exact h.row) (by have := h.row.lt; omega)
theorem FBox.below {B : Nat} (h : FBox w gf g L F) (hB : Below B w w') (h1 : gf < B) (h2 : g < B) : FBox w' gf g L F := ⟨h.box.below hB h1, h.row.below hB h2⟩
theorem FBox.alloc (h : FBox w gf g L F) (o : Obj) : FBox (w.alloc o) gf g L F := ⟨h.box.alloc o, h.row.alloc o⟩
theorem FBox.drew (h : FBox w gf g L F) : FBox w.drew gf g L F := ⟨h.box, h.row⟩
theorem FBox.set (h : FBox w gf g L F) (hne : gf ≠ g) (i : Nat) (b : Bool) : FBox (w.setCell ⟨g, i, none⟩ (.bool b)) gf g L (F.set i b) := by
  refine ⟨?_, ?_⟩
  · have := h.box.far (p := ⟨g, i, none⟩) hne (.bool b)
    rw [List.length_set]
    exact this
  · have := h.row.set_ i (.bool b)
    rw [show ((F.set i b).map Value.bool).toArray = (F.map Value.bool).toArray.setIfInBounds i (.bool b) by simp [List.map_set]]
    exact this
theorem FBox.far (h : FBox w gf g L F) {p : Addr} (h1 : gf ≠ p.block) (h2 : g ≠ p.block) (u : Value) : FBox (w.setCell p u) gf g L F := ⟨h.box.far h1 u, h.row.far h2 u⟩
theorem FBox.two (h : FBox w gf g L F) : w.cell? ⟨gf, 0, none⟩ = some (.int .i64 L) ∧ w.cell? ⟨gf, 1, none⟩ = some (.slice (some ⟨g, 0, none⟩) F.length F.length) := ⟨h.box.cell 0, h.box.cell 1⟩
theorem FBox.cell (h : FBox w gf g L F) {i : Nat} (hi : i < F.length) : w.cell? ⟨g, i, none⟩ = some (.bool (F.getD i false)) := by
  rw [h.row.cell]
  simp [hi, List.getD_eq_getElem?_getD]
end
end Go.Proofs.Ytfljcgehhnmamaa
/- law08.sanity (printed by mk_San8.py). -/
namespace Go.Proofs.Ytfljcgehhnmamaa
open Go.RowKit Go.Sort
set_option maxRecDepth 100000 in
set_option maxHeartbeats 16000000 in
theorem sanity8_any (w : World) : Calls Try.prog 12 #[] w fun e w' => e = .returned (.bool true) ∧ Below w.heap.size w w' := by
  have hm27 : ∀ W : World, (Instr.makeSlice 24 (.int .i64 27) (.int .i64 27)).run Try.prog W = .ok (.slice (some ⟨W.heap.size, 0, none⟩) 27 27) (W.alloc (.cells ((List.replicate 27 false).map Value.bool).toArray 4)) := mk_bl 27 (by omega)
  have hm125 : ∀ W : World, (Instr.makeSlice 24 (.int .i64 125) (.int .i64 125)).run Try.prog W = .ok (.slice (some ⟨W.heap.size, 0, none⟩) 125 125) (W.alloc (.cells ((List.replicate 125 false).map Value.bool).toArray 4)) := mk_bl 125 (by omega)
  obtain ⟨Z27, hZ27⟩ : ∃ Z, Z = ((List.replicate 27 false).map Value.bool).toArray := ⟨_, rfl⟩
  obtain ⟨Z125, hZ125⟩ : ∃ Z, Z = ((List.replicate 125 false).map Value.bool).toArray := ⟨_, rfl⟩
  rw [← hZ27] at hm27
  rw [← hZ125] at hm125
  have HZ := hide (And.intro hZ27 hZ125)
  clear hZ27 hZ125
  go_enter Try.func12, Try.ntmps12
  go_wp2_with fail
  obtain ⟨X0, hX0⟩ : ∃ X0, X0 = (w.alloc (.cells Z27 4)).alloc (.cells #[.int .i64 1, .slice (some ⟨w.heap.size, 0, none⟩) 27 27] 26) := ⟨_, rfl⟩
  rw [← hX0]
  have hz0 : X0.heap.size = w.heap.size + 2 := by rw [hX0]; simp
  have hF0 : FBox X0 (w.heap.size + 1) (w.heap.size) 1 (List.replicate 27 false) := by rw [hX0]; exact ⟨Blk.new' _ _ _ _ (by simp), by rw [← HZ.out.1]; exact (Blk.new' _ _ _ _ (by rfl)).alloc _⟩
  have hB0 : Below w.heap.size w X0 := by rw [hX0]; exact ((Below.refl _ w).alloc (by omega) _).alloc (by simp) _
  have HF := hide hF0
  have HB := hide hB0
  clear hF0 hB0 hX0 
  refine wp_region_mix (fun W => W.cell? ⟨w.heap.size + 1, 1, none⟩ = some (.slice (some ⟨w.heap.size, 0, none⟩) 27 27)) [0, 1] [0, 1, 2, 3, 4] mixed_ok (by kernel_rfl) ?_
  have hq : X0.drew.cell? ⟨w.heap.size + 1, 1, none⟩ = some (.slice (some ⟨w.heap.size, 0, none⟩) 27 27) := HF.out.drew.two.2
  refine wpMix_q (v := .pointer (some ⟨w.heap.size + 1, 1, none⟩)) rfl rfl (fun _ _ _ h => h) hq ⟨rfl, fun _ h' => by simp [go_sem]⟩ ?_
  refine wpMix_q (v := .slice (some ⟨w.heap.size, 0, none⟩) 27 27) rfl rfl (fun _ _ _ h => h) hq ⟨rfl, fun _ h' => by simp [go_sem, h']⟩ ?_
  refine wpMix_n rfl rfl ?_
  go_wp2_with fail
  have hix : ∀ W, Calls Try.prog 17 #[.int .i64 1, .int .i64 1, .int .i64 1, .int .i64 1] W fun e w' => e = .returned (.int .i64 13) ∧ w' = W := fun W => index_any 1 1 1 1 (by omega) (by omega) (by omega) (by omega) (by omega) W
  refine (hix _).mono ?_
  rintro e w' ⟨rfl, rfl⟩
  clear hix
  go_wp2_with fail
  refine ⟨fun _ => hq, ?_⟩
  have hcell : X0.drew.cell? ⟨w.heap.size, 13, none⟩ = some (.bool ((List.replicate 27 false).getD 13 false)) := HF.out.drew.cell (by decide)
  have hfrz := HF.out.drew.row.frozen 13
  refine wpMix_tail _ [_, _] (by kernel_rfl) rfl ?_
  simp only [List.getElem_toArray, List.getElem_cons_succ, List.getElem_cons_zero]
  go_wp2_with fail
  obtain ⟨V00, hV00⟩ : ∃ V00, V00 = X0.setCell ⟨w.heap.size, 13, none⟩ (.bool true) := ⟨_, rfl⟩
  rw [← hV00]
  have hF1 : FBox V00 (w.heap.size + 1) (w.heap.size) 1 ((List.replicate 27 false).set 13 true) := by rw [hV00]; exact HF.out.set (by omega) 13 true
  have hB1 : Below w.heap.size w V00 := by rw [hV00]; exact HB.out.setCell (by dsimp only; omega) _
  have hzV : V00.heap.size = w.heap.size + 2 := by rw [hV00]; exact (by simp [World.setCell] : (X0.setCell ⟨w.heap.size, 13, none⟩ (.bool true)).heap.size = X0.heap.size).trans hz0
  have HF := hide hF1
  have HB := hide hB1
  clear hF1 hB1 hV00 hcell hfrz hq 
  have HO0 := hide (show FBox V00 (w.heap.size + 1) (w.heap.size) 1 oneF from HF.out)
  obtain ⟨X1, hX1⟩ : ∃ X1, X1 = ((V00.alloc (.cells Z27 4)).alloc (.cells #[.int .i64 1, .slice (some ⟨w.heap.size + 2, 0, none⟩) 27 27] 26)).drew := ⟨_, rfl⟩
  rw [← hX1]
  have hz1 : X1.heap.size = w.heap.size + 4 := by rw [hX1]; simp [hzV]; try omega
  have hF1 : FBox X1 (w.heap.size + 2 + 1) (w.heap.size + 2) 1 (List.replicate 27 false) := by rw [hX1]; exact ⟨Blk.new' _ _ _ _ (by simp [hzV]; try omega), by rw [← HZ.out.1]; exact (Blk.new' _ _ _ _ (by rw [hzV])).alloc _⟩
  have hB1 : Below w.heap.size w X1 := by rw [hX1]; exact ((HB.out.alloc (by rw [hzV]; omega) _).alloc (by simp [hzV]; try omega) _).drew
  have hO0 : FBox X1 (w.heap.size + 1) (w.heap.size) 1 oneF := by rw [hX1]; exact ((HO0.out.alloc _).alloc _).drew
  have HF := hide hF1
  have HB := hide hB1
  have HO0 := hide hO0
  clear hF1 hB1 hX1 hO0 hzV
  refine wp_region_mix (fun W => W.cell? ⟨w.heap.size + 2 + 1, 1, none⟩ = some (.slice (some ⟨w.heap.size + 2, 0, none⟩) 27 27)) [0, 1] [0, 1, 2, 3, 4] mixed_ok (by kernel_rfl) ?_
  have hq : X1.drew.cell? ⟨w.heap.size + 2 + 1, 1, none⟩ = some (.slice (some ⟨w.heap.size + 2, 0, none⟩) 27 27) := HF.out.drew.two.2
  refine wpMix_q (v := .pointer (some ⟨w.heap.size + 2 + 1, 1, none⟩)) rfl rfl (fun _ _ _ h => h) hq ⟨rfl, fun _ h' => by simp [go_sem]⟩ ?_
  refine wpMix_q (v := .slice (some ⟨w.heap.size + 2, 0, none⟩) 27 27) rfl rfl (fun _ _ _ h => h) hq ⟨rfl, fun _ h' => by simp [go_sem, h']⟩ ?_
  refine wpMix_n rfl rfl ?_
  go_wp2_with fail
  have hix : ∀ W, Calls Try.prog 17 #[.int .i64 1, .int .i64 0, .int .i64 1, .int .i64 1] W fun e w' => e = .returned (.int .i64 12) ∧ w' = W := fun W => index_any 1 0 1 1 (by omega) (by omega) (by omega) (by omega) (by omega) W
  refine (hix _).mono ?_
  rintro e w' ⟨rfl, rfl⟩
  clear hix
  go_wp2_with fail
  refine ⟨fun _ => hq, ?_⟩
  have hcell : X1.drew.cell? ⟨w.heap.size + 2, 12, none⟩ = some (.bool ((List.replicate 27 false).getD 12 false)) := HF.out.drew.cell (by decide)
  have hfrz := HF.out.drew.row.frozen 12
  refine wpMix_tail _ [_, _] (by kernel_rfl) rfl ?_
  simp only [List.getElem_toArray, List.getElem_cons_succ, List.getElem_cons_zero]
  go_wp2_with fail
  obtain ⟨V10, hV10⟩ : ∃ V10, V10 = X1.setCell ⟨w.heap.size + 2, 12, none⟩ (.bool true) := ⟨_, rfl⟩
  rw [← hV10]
  have hF1 : FBox V10 (w.heap.size + 2 + 1) (w.heap.size + 2) 1 ((List.replicate 27 false).set 12 true) := by rw [hV10]; exact HF.out.set (by omega) 12 true
  have hB1 : Below w.heap.size w V10 := by rw [hV10]; exact HB.out.setCell (by dsimp only; omega) _
  have hzV : V10.heap.size = w.heap.size + 4 := by rw [hV10]; exact (by simp [World.setCell] : (X1.setCell ⟨w.heap.size + 2, 12, none⟩ (.bool true)).heap.size = X1.heap.size).trans hz1
  have hO0 : FBox V10 (w.heap.size + 1) (w.heap.size) 1 oneF := by rw [hV10]; exact HO0.out.far (by dsimp only; omega) (by dsimp only; omega) _
  have HF := hide hF1
  have HB := hide hB1
  have HO0 := hide hO0
  clear hF1 hB1 hV10 hcell hfrz hq hO0
  have HO1 := hide (show FBox V10 (w.heap.size + 2 + 1) (w.heap.size + 2) 1 wrongF from HF.out)
  obtain ⟨X2, hX2⟩ : ∃ X2, X2 = ((V10.alloc (.cells Z125 4)).alloc (.cells #[.int .i64 2, .slice (some ⟨w.heap.size + 4, 0, none⟩) 125 125] 26)).drew := ⟨_, rfl⟩
  rw [← hX2]
  have hz2 : X2.heap.size = w.heap.size + 6 := by rw [hX2]; simp [hzV]; try omega
  have hF2 : FBox X2 (w.heap.size + 4 + 1) (w.heap.size + 4) 2 (List.replicate 125 false) := by rw [hX2]; exact ⟨Blk.new' _ _ _ _ (by simp [hzV]; try omega), by rw [← HZ.out.2]; exact (Blk.new' _ _ _ _ (by rw [hzV])).alloc _⟩
  have hB2 : Below w.heap.size w X2 := by rw [hX2]; exact ((HB.out.alloc (by rw [hzV]; omega) _).alloc (by simp [hzV]; try omega) _).drew
  have hO0 : FBox X2 (w.heap.size + 1) (w.heap.size) 1 oneF := by rw [hX2]; exact ((HO0.out.alloc _).alloc _).drew
  have hO1 : FBox X2 (w.heap.size + 2 + 1) (w.heap.size + 2) 1 wrongF := by rw [hX2]; exact ((HO1.out.alloc _).alloc _).drew
  have HF := hide hF2
  have HB := hide hB2
  have HO0 := hide hO0
  have HO1 := hide hO1
  clear hF2 hB2 hX2 hO0 hO1 hzV
  refine wp_region_mix (fun W => W.cell? ⟨w.heap.size + 4 + 1, 1, none⟩ = some (.slice (some ⟨w.heap.size + 4, 0, none⟩) 125 125)) [0, 1] [0, 1, 2, 3, 4] mixed_ok (by kernel_rfl) ?_
  have hq : X2.drew.cell? ⟨w.heap.size + 4 + 1, 1, none⟩ = some (.slice (some ⟨w.heap.size + 4, 0, none⟩) 125 125) := HF.out.drew.two.2
  refine wpMix_q (v := .pointer (some ⟨w.heap.size + 4 + 1, 1, none⟩)) rfl rfl (fun _ _ _ h => h) hq ⟨rfl, fun _ h' => by simp [go_sem]⟩ ?_
  refine wpMix_q (v := .slice (some ⟨w.heap.size + 4, 0, none⟩) 125 125) rfl rfl (fun _ _ _ h => h) hq ⟨rfl, fun _ h' => by simp [go_sem, h']⟩ ?_
  refine wpMix_n rfl rfl ?_
  go_wp2_with fail
  have hix : ∀ W, Calls Try.prog 17 #[.int .i64 2, .int .i64 1, .int .i64 1, .int .i64 1] W fun e w' => e = .returned (.int .i64 31) ∧ w' = W := fun W => index_any 2 1 1 1 (by omega) (by omega) (by omega) (by omega) (by omega) W
  refine (hix _).mono ?_
  rintro e w' ⟨rfl, rfl⟩
  clear hix
  go_wp2_with fail
  refine ⟨fun _ => hq, ?_⟩
  have hcell : X2.drew.cell? ⟨w.heap.size + 4, 31, none⟩ = some (.bool ((List.replicate 125 false).getD 31 false)) := HF.out.drew.cell (by decide)
  have hfrz := HF.out.drew.row.frozen 31
  refine wpMix_tail _ [_, _] (by kernel_rfl) rfl ?_
  simp only [List.getElem_toArray, List.getElem_cons_succ, List.getElem_cons_zero]
  go_wp2_with fail
  obtain ⟨V20, hV20⟩ : ∃ V20, V20 = (X2.setCell ⟨w.heap.size + 4, 31, none⟩ (.bool true)).drew := ⟨_, rfl⟩
  rw [← hV20]
  have hF1 : FBox V20 (w.heap.size + 4 + 1) (w.heap.size + 4) 2 ((List.replicate 125 false).set 31 true) := by rw [hV20]; exact (HF.out.set (by omega) 31 true).drew
  have hB1 : Below w.heap.size w V20 := by rw [hV20]; exact (HB.out.setCell (by dsimp only; omega) _).drew
  have hzV : V20.heap.size = w.heap.size + 6 := by rw [hV20]; exact (by simp [World.setCell] : (X2.setCell ⟨w.heap.size + 4, 31, none⟩ (.bool true)).heap.size = X2.heap.size).trans hz2
  have hO0 : FBox V20 (w.heap.size + 1) (w.heap.size) 1 oneF := by rw [hV20]; exact (HO0.out.far (by dsimp only; omega) (by dsimp only; omega) _).drew
  have hO1 : FBox V20 (w.heap.size + 2 + 1) (w.heap.size + 2) 1 wrongF := by rw [hV20]; exact (HO1.out.far (by dsimp only; omega) (by dsimp only; omega) _).drew
  have HF := hide hF1
  have HB := hide hB1
  have HO0 := hide hO0
  have HO1 := hide hO1
  clear hF1 hB1 hV20 hcell hfrz hq hO0 hO1
  have hzU := hzV
  clear hzV
  refine wp_region_mix (fun W => W.cell? ⟨w.heap.size + 4 + 1, 1, none⟩ = some (.slice (some ⟨w.heap.size + 4, 0, none⟩) 125 125)) [0, 1] [0, 1, 2, 3, 4] mixed_ok (by kernel_rfl) ?_
  have hq : V20.drew.cell? ⟨w.heap.size + 4 + 1, 1, none⟩ = some (.slice (some ⟨w.heap.size + 4, 0, none⟩) 125 125) := HF.out.drew.two.2
  refine wpMix_q (v := .pointer (some ⟨w.heap.size + 4 + 1, 1, none⟩)) rfl rfl (fun _ _ _ h => h) hq ⟨rfl, fun _ h' => by simp [go_sem]⟩ ?_
  refine wpMix_q (v := .slice (some ⟨w.heap.size + 4, 0, none⟩) 125 125) rfl rfl (fun _ _ _ h => h) hq ⟨rfl, fun _ h' => by simp [go_sem, h']⟩ ?_
  refine wpMix_n rfl rfl ?_
  go_wp2_with fail
  have hix : ∀ W, Calls Try.prog 17 #[.int .i64 2, .int .i64 2, .int .i64 1, .int .i64 1] W fun e w' => e = .returned (.int .i64 32) ∧ w' = W := fun W => index_any 2 2 1 1 (by omega) (by omega) (by omega) (by omega) (by omega) W
  refine (hix _).mono ?_
  rintro e w' ⟨rfl, rfl⟩
  clear hix
  go_wp2_with fail
  refine ⟨fun _ => hq, ?_⟩
  have hcell : V20.drew.cell? ⟨w.heap.size + 4, 32, none⟩ = some (.bool (((List.replicate 125 false).set 31 true).getD 32 false)) := HF.out.drew.cell (by decide)
  have hfrz := HF.out.drew.row.frozen 32
  refine wpMix_tail _ [_, _] (by kernel_rfl) rfl ?_
  simp only [List.getElem_toArray, List.getElem_cons_succ, List.getElem_cons_zero]
  go_upto_region 8 with fail
  obtain ⟨V21, hV21⟩ : ∃ V21, V21 = (V20.setCell ⟨w.heap.size + 4, 32, none⟩ (.bool true)).drew := ⟨_, rfl⟩
  rw [← hV21]
  have hF1 : FBox V21 (w.heap.size + 4 + 1) (w.heap.size + 4) 2 (((List.replicate 125 false).set 31 true).set 32 true) := by rw [hV21]; exact (HF.out.set (by omega) 32 true).drew
  have hB1 : Below w.heap.size w V21 := by rw [hV21]; exact (HB.out.setCell (by dsimp only; omega) _).drew
  have hzV : V21.heap.size = w.heap.size + 6 := by rw [hV21]; exact (by simp [World.setCell] : (V20.setCell ⟨w.heap.size + 4, 32, none⟩ (.bool true)).heap.size = V20.heap.size).trans hzU
  have hO0 : FBox V21 (w.heap.size + 1) (w.heap.size) 1 oneF := by rw [hV21]; exact (HO0.out.far (by dsimp only; omega) (by dsimp only; omega) _).drew
  have hO1 : FBox V21 (w.heap.size + 2 + 1) (w.heap.size + 2) 1 wrongF := by rw [hV21]; exact (HO1.out.far (by dsimp only; omega) (by dsimp only; omega) _).drew
  have HF := hide hF1
  have HB := hide hB1
  have HO0 := hide hO0
  have HO1 := hide hO1
  clear hF1 hB1 hV21 hcell hfrz hq hO0 hO1
  obtain ⟨V, rfl⟩ : ∃ V, V = V21 := ⟨_, rfl⟩
  obtain ⟨c0, c1⟩ := HO0.out.two
  obtain ⟨d0, d1⟩ := HO1.out.two
  obtain ⟨t0, t1⟩ := HF.out.two
  have cl1 := HO0.out.box.lt
  have cl2 := HO1.out.box.lt
  have cl3 := HF.out.box.lt
  have hk1 : ∀ W, Below V.heap.size V W → Calls Try.prog 15 #[.agg #[.int .i64 1, .slice (some ⟨w.heap.size, 0, none⟩) 27 27]] W fun e w' => ∃ v, e = .returned v ∧ Own encT 9 40 w' W.heap.size v 8 (contourP 1 oneF) ∧ Below W.heap.size W w' := fun W hW => by
    have h := contour_any 1 (some ⟨w.heap.size, 0, none⟩) 27 oneF W ((HO0.out.below hW (by omega) (by omega)).sl (Nat.le_refl _)) (by decide)
    rw [show (contourP 1 oneF).length = 8 by rw [contourE_eq]; exact ex_one.1] at h
    exact h
  have hk2 : ∀ W, Below V.heap.size V W → Calls Try.prog 15 #[.agg #[.int .i64 1, .slice (some ⟨w.heap.size + 2, 0, none⟩) 27 27]] W fun e w' => ∃ v, e = .returned v ∧ Own encT 9 40 w' W.heap.size v 0 (contourP 1 wrongF) ∧ Below W.heap.size W w' := fun W hW => by
    have h := contour_any 1 (some ⟨w.heap.size + 2, 0, none⟩) 27 wrongF W ((HO1.out.below hW (by omega) (by omega)).sl (Nat.le_refl _)) (by decide)
    rw [show (contourP 1 wrongF).length = 0 by rw [contourE_eq, ex_wrong]; rfl] at h
    exact h
  have hk3 : ∀ W, Below V.heap.size V W → Calls Try.prog 15 #[.agg #[.int .i64 2, .slice (some ⟨w.heap.size + 4, 0, none⟩) 125 125]] W fun e w' => ∃ v, e = .returned v ∧ Own encT 9 40 w' W.heap.size v 24 (contourP 2 twoF) ∧ Below W.heap.size W w' := fun W hW => by
    have h := contour_any 2 (some ⟨w.heap.size + 4, 0, none⟩) 125 twoF W ((HF.out.below hW (by omega) (by omega)).sl (Nat.le_refl _)) (by decide)
    rw [show (contourP 2 twoF).length = 24 by rw [contourE_eq]; exact ex_two] at h
    exact h
  have HK := hide (And.intro hk1 (And.intro hk2 hk3))
  clear hk1 hk2 hk3
  go_wp2_with fail
  refine (HK.out.1 V (Below.refl _ V)).mono ?_
  rintro e w1 ⟨v1, rfl, hown1, hB1⟩
  obtain ⟨A1, c1', rfl⟩ := hown1.form
  obtain ⟨e0, e1⟩ := (HO1.out.below hB1 cl2 (by omega)).two
  obtain ⟨f0, f1⟩ := (HF.out.below hB1 cl3 (by omega)).two
  have hz1' := hB1.size
  have HO := hide (And.intro hown1 hB1)
  clear hown1 hB1 c0 c1 d0 d1 t0 t1
  go_wp2_with fail
  refine (HK.out.2.1 w1 HO.out.2).mono ?_
  rintro e w2 ⟨v2, rfl, hown2, hB2⟩
  obtain ⟨A2, c2', rfl⟩ := hown2.form
  obtain ⟨f0', f1'⟩ := (HF.out.below (HO.out.2.trans (hB2.mono hz1')) cl3 (by omega)).two
  have hB12 : Below V.heap.size V w2 := HO.out.2.trans (hB2.mono hz1')
  have hz2' := hB12.size
  have HO2 := hide hB12
  have HB12w := hide hB2
  clear hown2 hB2 hB12 e0 e1 f0 f1
  go_wp2_with fail
  refine (HK.out.2.2 w2 HO2.out).mono ?_
  rintro e w3 ⟨v3, rfl, hown3, hB3⟩
  obtain ⟨A3, c3', rfl⟩ := hown3.form
  have hB13 : Below V.heap.size V w3 := HO2.out.trans (hB3.mono hz2')
  have hz3' := hB13.size
  have HB1w : Below w1.heap.size w1 w3 := HB12w.out.trans (hB3.mono HB12w.out.size)
  have hL8 : (contourP 1 oneF).length = 8 := by rw [contourE_eq]; exact ex_one.1
  have hft : ∀ t ∈ contourP 1 oneF, fitsT t := by rw [contourE_eq]; exact ex_fits
  have hsl : ∀ W, Below V.heap.size V W → Below w1.heap.size w1 W → Sl encT 9 W W.heap.size A1 (contourP 1 oneF) := fun W hW h1 => ((HO.out.1.sl encT_len (Nat.le_refl _)).below h1).more h1.size
  have hco : ∀ W, Below V.heap.size V W → Below w1.heap.size w1 W → Calls Try.prog 21 #[.slice A1 8 c1'] W fun e w' => ∃ g o c6, e = .returned (.slice (some ⟨g, o, none⟩) 6 c6) ∧ w'.cell? ⟨g, o, none⟩ = some (.int .i64 524288) ∧ w'.cell? ⟨g, o + 1, none⟩ = some (.int .i64 1048576) ∧ w'.cell? ⟨g, o + 2, none⟩ = some (.int .i64 1048576) ∧ Below W.heap.size W w' := fun W hW h1 => by
    have h := corners_any A1 c1' (contourP 1 oneF) W (hsl W hW h1) (by rw [hL8]; omega) hft
    rw [hL8] at h
    refine h.mono ?_
    rintro e w' ⟨A', c', rfl, hs, _, hB, _⟩
    have h6 : (cornersP (contourP 1 oneF)).length = 6 := by rw [contourE_eq]; exact ex_one.2.2.1
    have h0 : (cornersP (contourP 1 oneF))[0]? = some (524288, 1048576, 1048576) := by rw [contourE_eq]; exact ex_one.2.2.2
    obtain ⟨b, o, rfl, _, hc⟩ := hs.at h0
    rw [h6]
    have p0 := hc 0 _ rfl
    have p1 := hc 1 _ rfl
    have p2 := hc 2 _ rfl
    simp only [Nat.zero_mul, Nat.add_zero] at p0 p1 p2
    exact ⟨b, o, c', rfl, p0, p1, p2, hB⟩
  have hch : ∀ W, Below V.heap.size V W → Below w1.heap.size w1 W → Calls Try.prog 18 #[.slice A1 8 c1'] W fun e w' => e = .returned (.int .i64 0) ∧ Below W.heap.size W w' := fun W hW h1 => by
    have h := Check_any A1 c1' (contourP 1 oneF) W (hsl W hW h1) (by rw [hL8]; omega) hft
    rw [hL8, show checkP (contourP 1 oneF) false = 0 by rw [contourE_eq]; exact ex_one.2.1] at h
    exact h
  have heq : ∀ W, (Op.equalIn 10000 38 (.agg #[.int .i64 524288, .int .i64 1048576, .int .i64 1048576]) (.agg #[.int .i64 524288, .int .i64 1048576, .int .i64 1048576])).run Try.prog W = .ok true W := fun W => by
    have hf : fitsP (524288, 1048576, 1048576) := ⟨⟨by decide, by decide⟩, ⟨by decide, by decide⟩, by decide, by decide⟩
    have h := eqP (524288, 1048576, 1048576) (524288, 1048576, 1048576) hf hf W
    simpa using h
  have hB1w : Below w1.heap.size w1 w3 := HB1w
  have HC := hide (And.intro hco hch)
  have H3 := hide (And.intro hB13 hB1w)
  clear hco hch hsl hft hL8 hB13 hown3 hB3 f0' f1' hB1w
  go_upto_region 11 with fail
  go_wp2_with fail
  refine (HC.out.1 w3 H3.out.1 H3.out.2).mono ?_
  rintro e w4 ⟨g4, o4, c4', rfl, _, _, _, hB4⟩
  have hV4 := H3.out.1.trans (hB4.mono hz3')
  have h14 := H3.out.2.trans (hB4.mono (by have := H3.out.2.size; omega))
  have H4 := hide (And.intro hV4 h14)
  clear hB4 hV4 h14
  go_wp2_with fail
  refine (HC.out.1 w4 H4.out.1 H4.out.2).mono ?_
  rintro e w5 ⟨g5, o5, c5', rfl, q0, q1, q2, hB5⟩
  have hV5 := H4.out.1.trans (hB5.mono H4.out.1.size)
  have h15 := H4.out.2.trans (hB5.mono H4.out.2.size)
  have H5 := hide (And.intro hV5 h15)
  clear hB5 hV5 h15
  go_wp2_with fail
  refine (HC.out.2 w5 H5.out.1 H5.out.2).mono ?_
  rintro e w6 ⟨rfl, hB6⟩
  have hV6 := H5.out.1.trans (hB6.mono H5.out.1.size)
  have H6 := hide (HB.out.trans (hV6.mono HB.out.size))
  clear hB6 hV6
  go_wp2
  go_ret
  exact ⟨rfl, H6.out⟩
end Go.Proofs.Ytfljcgehhnmamaa
