/- ContourApart: the walk (printed by mk_Apart.py). -/
import Derived.StillTailTactics
import Derived.Test.YtfljcgehhnmamaaCPlaceP
import Derived.Test.YtfljcgehhnmamaaCFieldA
import Derived.Test.YtfljcgehhnmamaaCSame04
import Derived.Test.YtfljcgehhnmamaaCBdP
namespace Go.Proofs.Ytfljcgehhnmamaa
open Go.RowKit Go.Sort
theorem orF_set {G : List Bool} {i : Nat} {b : Bool} (h : G.getD i false = false) : orF G i b = G.set i b := by unfold orF; rw [h, Bool.false_or]
theorem inS_in {S : List Bool} (hS : InS S) {m : Nat} (hm : m < 125) (h : S.getD m false = true) : 1 ≤ m % 5 ∧ m % 5 ≤ 3 := by
  refine (hS (m % 5) (m / 5 % 5) (m / 25) (by omega) (by omega) (by omega) ?_).1
  unfold V5
  rw [show (m / 25 * 5 + m / 5 % 5) * 5 + m % 5 = m by omega]
  exact h
theorem place_new {S : List Bool} {o q : Nat × Nat × Nat} (ho : smallO o) {k : Nat} (hk : k < 125) (h : ∀ m, m < k → S.getD m false = true → idx9 q k ≠ idx9 o m) : (placeF S o k).getD (idx9 q k) false = false := by
  rw [← Bool.not_eq_true, placeF_get ho k (by omega)]
  rintro ⟨m, h1, h2, h3⟩
  exact h m h1 h3 h2
theorem idx9_ne {o : Nat × Nat × Nat} (ho : smallO o) {m k : Nat} (hm : m < k) (hk : k < 125) : idx9 o k ≠ idx9 o m := by
  obtain ⟨h1, h2, h3⟩ := ho
  unfold idx9
  omega
abbrev o0 : Nat × Nat × Nat := (0, 0, 0)
abbrev o4 : Nat × Nat × Nat := (4, 0, 0)
theorem so0 : smallO o0 := ⟨Nat.zero_le _, Nat.zero_le _, Nat.zero_le _⟩
theorem so4 : smallO o4 := ⟨Nat.le_refl _, Nat.zero_le _, Nat.zero_le _⟩
theorem new_a (S : List Bool) {k : Nat} (hk : k < 125) : (placeF S o0 k).getD (idx9 o0 k) false = false := place_new so0 hk fun _ hm _ => idx9_ne so0 hm hk
theorem new_b (T : List Bool) {k : Nat} (hk : k < 125) : (placeF T o4 k).getD (idx9 o4 k) false = false := place_new so4 hk fun _ hm _ => idx9_ne so4 hm hk
theorem new_p (S : List Bool) {T : List Bool} (hT : InS T) {k : Nat} (hk : k < 125) : (bothF S T o0 o4 k).getD (idx9 o0 k) false = false := by
  rw [bothF_get so0 so4 k (by omega), new_a S hk, Bool.false_or]
  refine place_new so4 hk fun m hm hTm e => ?_
  have := inS_in hT (by omega) hTm
  unfold idx9 at e
  dsimp only at e
  omega
theorem new_q {S : List Bool} (hS : InS S) (T : List Bool) {k : Nat} (hk : k < 125) : ((bothF S T o0 o4 k).set (idx9 o0 k) (S.getD k false)).getD (idx9 o4 k) false = false := by
  have hne : idx9 o0 k ≠ idx9 o4 k := by unfold idx9; dsimp only; omega
  rw [List.getD_eq_getElem?_getD, List.getElem?_set_ne hne, ← List.getD_eq_getElem?_getD, bothF_get so0 so4 k (by omega), new_b T hk, Bool.or_false]
  refine place_new so0 hk fun m hm hSm e => ?_
  have := inS_in hS (by omega) hSm
  unfold idx9 at e
  dsimp only at e
  omega
theorem both_succ {S T : List Bool} (hS : InS S) (hT : InS T) {k : Nat} (hk : k < 125) : bothF S T o0 o4 (k + 1) = ((bothF S T o0 o4 k).set (idx9 o0 k) (S.getD k false)).set (idx9 o4 k) (T.getD k false) := by
  rw [bothF, orF_set (new_p S hT hk), orF_set (new_q hS T hk)]
theorem place_succ {S : List Bool} {o : Nat × Nat × Nat} {k : Nat} (h : (placeF S o k).getD (idx9 o k) false = false) : placeF S o (k + 1) = (placeF S o k).set (idx9 o k) (S.getD k false) := by
  rw [placeF, orF_set h]
/-- Two small fields and three greater ones, in boxes of their own. -/
structure Ap5 (bx gX bY gY ga gb gc : Nat) (S T : List Bool) (w0 wx : World) (A B C : List Bool) : Prop where
  sx : FBox wx bx gX 2 S
  sy : FBox wx bY gY 2 T
  fa : FBox wx (ga + 1) ga 3 A
  fb : FBox wx (gb + 1) gb 3 B
  fc : FBox wx (gc + 1) gc 3 C
  bel : Below ga w0 wx
def ApD (bx gX bY gY ga gb gc : Nat) : Prop := bx < ga ∧ gX < ga ∧ bY < ga ∧ gY < ga ∧ ga + 1 < gb ∧ gb + 1 < gc
section
variable {bx gX bY gY ga gb gc : Nat} {S T : List Bool} {w0 wx : World} {A B C : List Bool}
theorem Ap5.setA (h : Ap5 bx gX bY gY ga gb gc S T w0 wx A B C) (hd : ApD bx gX bY gY ga gb gc) (i : Nat) (b : Bool) : Ap5 bx gX bY gY ga gb gc S T w0 (wx.setCell ⟨ga, i, none⟩ (.bool b)).drew (A.set i b) B C := by
  obtain ⟨h1, h2, h3, h4, h5, h6⟩ := hd
  exact ⟨(h.sx.far (by dsimp only; omega) (by dsimp only; omega) _).drew, (h.sy.far (by dsimp only; omega) (by dsimp only; omega) _).drew, (h.fa.set (by omega) i b).drew, (h.fb.far (by dsimp only; omega) (by dsimp only; omega) _).drew, (h.fc.far (by dsimp only; omega) (by dsimp only; omega) _).drew, (h.bel.setCell (by dsimp only; omega) _).drew⟩
theorem Ap5.setB (h : Ap5 bx gX bY gY ga gb gc S T w0 wx A B C) (hd : ApD bx gX bY gY ga gb gc) (i : Nat) (b : Bool) : Ap5 bx gX bY gY ga gb gc S T w0 (wx.setCell ⟨gb, i, none⟩ (.bool b)).drew A (B.set i b) C := by
  obtain ⟨h1, h2, h3, h4, h5, h6⟩ := hd
  exact ⟨(h.sx.far (by dsimp only; omega) (by dsimp only; omega) _).drew, (h.sy.far (by dsimp only; omega) (by dsimp only; omega) _).drew, (h.fa.far (by dsimp only; omega) (by dsimp only; omega) _).drew, (h.fb.set (by omega) i b).drew, (h.fc.far (by dsimp only; omega) (by dsimp only; omega) _).drew, (h.bel.setCell (by dsimp only; omega) _).drew⟩
theorem Ap5.setC (h : Ap5 bx gX bY gY ga gb gc S T w0 wx A B C) (hd : ApD bx gX bY gY ga gb gc) (i : Nat) (b : Bool) : Ap5 bx gX bY gY ga gb gc S T w0 (wx.setCell ⟨gc, i, none⟩ (.bool b)).drew A B (C.set i b) := by
  obtain ⟨h1, h2, h3, h4, h5, h6⟩ := hd
  exact ⟨(h.sx.far (by dsimp only; omega) (by dsimp only; omega) _).drew, (h.sy.far (by dsimp only; omega) (by dsimp only; omega) _).drew, (h.fa.far (by dsimp only; omega) (by dsimp only; omega) _).drew, (h.fb.far (by dsimp only; omega) (by dsimp only; omega) _).drew, (h.fc.set (by omega) i b).drew, (h.bel.setCell (by dsimp only; omega) _).drew⟩
end
theorem contour_range3 (F : List Bool) : ∀ t ∈ contourP 3 F, rangeT t := by
  by_cases hv : validF 3 F = true
  · exact contour_range (l := 3) (by omega) (by omega) hv
  · have hc : contourP 3 F = [] := by unfold contourP; rw [if_neg hv]
    rw [hc]; intro t ht; cases ht
theorem contour_few3 (F : List Bool) : (contourP 3 F).length ≤ 12288 := by
  by_cases hv : validF 3 F = true
  · exact contour_few (l := 3) (by omega) (by omega) hv
  · have hc : contourP 3 F = [] := by unfold contourP; rw [if_neg hv]
    rw [hc]; exact Nat.zero_le _
/-- What a box's cell and its row read as. -/
theorem FBox.reads {w : World} {gf g : Nat} {L : Int} {F : List Bool} (h : FBox w gf g L F) {N : Nat} (hN : F.length = N) {i : Nat} (hi : i < N) {b : Bool} (hb : F.getD i false = b) : w.cell? ⟨gf, 1, none⟩ = some (.slice (some ⟨g, 0, none⟩) N N) ∧ w.cell? ⟨g, i, none⟩ = some (.bool b) ∧ w.frozen? ⟨g, i, none⟩ = false := by
  refine ⟨?_, ?_, h.row.frozen i⟩
  · have := h.two.2; rw [hN] at this; exact this
  · rw [← hb]; exact h.cell (by omega)
set_option maxRecDepth 100000 in
set_option maxHeartbeats 32000000 in
theorem apart_walk (A0 : Option Addr) (c0 : Nat) (ns0 : List Int) (A1 : Option Addr) (c1 : Nat) (ns1 : List Int) (w : World) (hs0 : ns0 ≠ [] → Sl encZ 1 w w.heap.size A0 ns0) (hf0 : ∀ x ∈ ns0, fits x) (hl0 : ns0.length ≤ 9223372036854775807) (hs1 : ns1 ≠ [] → Sl encZ 1 w w.heap.size A1 ns1) (hf1 : ∀ x ∈ ns1, fits x) (hl1 : ns1.length ≤ 9223372036854775807) :
    Calls Try.prog 10 #[.slice A0 ns0.length c0, .slice A1 ns1.length c1] w fun e w' => e = .returned (.bool true) ∧ Below w.heap.size w w' := by
  have hfd0 := fun W (hW : Below w.heap.size w W) => field_any 2 (by omega) (by omega) A0 c0 ns0 W (fun hne => ((hs0 hne).below hW).more hW.size) hf0 hl0
  have hfd1 := fun W (hW : Below w.heap.size w W) => field_any 2 (by omega) (by omega) A1 c1 ns1 W (fun hne => ((hs1 hne).below hW).more hW.size) hf1 hl1
  obtain ⟨nl, hnl⟩ : ∃ nl, nl = ns0.length := ⟨_, rfl⟩
  obtain ⟨ml, hml⟩ : ∃ nl, nl = ns1.length := ⟨_, rfl⟩
  rw [← hnl] at hfd0 ⊢
  rw [← hml] at hfd1 ⊢
  have HF := hide (And.intro hfd0 hfd1)
  clear hfd0 hfd1 hs0 hf0 hl0 hs1 hf1 hl1 hnl hml
  have hm729 : ∀ W : World, (Instr.makeSlice 24 (.int .i64 729) (.int .i64 729)).run Try.prog W = .ok (.slice (some ⟨W.heap.size, 0, none⟩) 729 729) (W.alloc (.cells ((List.replicate 729 false).map Value.bool).toArray 4)) := mk_bl 729 (by omega)
  obtain ⟨ZN, hZN⟩ : ∃ Z, Z = ((List.replicate 729 false).map Value.bool).toArray := ⟨_, rfl⟩
  rw [← hZN] at hm729
  have HZN := hide hZN
  clear hZN
  go_enter Try.func10, Try.ntmps10
  go_wp2_with fail
  refine (sanity8_any w).mono ?_
  rintro e w1 ⟨rfl, hB1⟩
  have hz1 := hB1.size
  have HB1 := hide hB1
  clear hB1
  go_wp2_with fail
  refine (HF.out.1 w1 HB1.out).mono ?_
  rintro e w2 ⟨gX, S, rfl, hb, hg, hv, hB2⟩
  have hz2 := hB2.size
  have hgXl := hb.lt
  have hlS : S.length = 125 := (valid_parts (l := 2) hv).1
  rw [hlS]
  go_upto_region 3 with fail
  obtain ⟨X, hX⟩ : ∃ X, X = w2.alloc (.cells #[.int .i64 2, .slice (some ⟨gX, 0, none⟩) 125 125] 26) := ⟨_, rfl⟩
  rw [← hX]
  have hFX : FBox X w2.heap.size gX 2 S := by rw [hX]; exact ⟨by rw [hlS]; exact Blk.new _ _ _, hb.alloc _⟩
  have hBX : Below w.heap.size w X := by rw [hX]; exact (HB1.out.trans (hB2.mono hz1)).alloc (by omega) _
  have hzX : X.heap.size = w2.heap.size + 1 := by rw [hX]; simp
  have HX := hide (And.intro hFX (And.intro hBX (And.intro (inS_of hv) (And.intro hlS hv))))
  clear hFX hBX hX hv hb hB2 hlS
  go_wp2_with fail
  refine (HF.out.2 X HX.out.2.1).mono ?_
  rintro e w4 ⟨gY, T, rfl, hb, hg', hv, hB4⟩
  have hz4 := hB4.size
  have hgYl := hb.lt
  have hlT : T.length = 125 := (valid_parts (l := 2) hv).1
  rw [hlT]
  go_upto_region 4 with fail
  obtain ⟨Y, hY⟩ : ∃ Y, Y = w4.alloc (.cells #[.int .i64 2, .slice (some ⟨gY, 0, none⟩) 125 125] 26) := ⟨_, rfl⟩
  rw [← hY]
  have hFY : FBox Y w4.heap.size gY 2 T := by rw [hY]; exact ⟨by rw [hlT]; exact Blk.new _ _ _, hb.alloc _⟩
  have hFXY : FBox Y w2.heap.size gX 2 S := by rw [hY]; exact (HX.out.1.below hB4 (by omega) (by omega)).alloc _
  have hBY : Below w.heap.size w Y := by rw [hY]; exact (HX.out.2.1.trans (hB4.mono (by omega))).alloc (by omega) _
  have hzY : Y.heap.size = w4.heap.size + 1 := by rw [hY]; simp
  have HY := hide (And.intro hFXY (And.intro hFY (And.intro hBY (And.intro (inS_of hv) (And.intro hlT hv)))))
  clear hFXY hFY hBY hY hv hb hB4 hlT
  go_upto_region 5 with fail
  obtain ⟨Y1, hY1⟩ : ∃ Z, Z = (Y.alloc (.cells ZN 4)).alloc (.cells #[.int .i64 3, .slice (some ⟨w4.heap.size + 1, 0, none⟩) 729 729] 26) := ⟨_, rfl⟩
  rw [← hY1]
  have hzY1 : Y1.heap.size = w4.heap.size + 3 := by rw [hY1]; simp; omega
  have hFa : FBox Y1 (w4.heap.size + 1 + 1) (w4.heap.size + 1) 3 (List.replicate 729 false) := by
    rw [hY1]
    refine ⟨by rw [List.length_replicate]; exact Blk.new' _ _ _ _ (by simp; omega), ?_⟩
    rw [← HZN.out]
    exact (Blk.new' _ _ _ _ hzY.symm).alloc _
  have h1 : FBox Y1 w2.heap.size gX 2 S ∧ FBox Y1 w4.heap.size gY 2 T ∧ Below (w4.heap.size + 1) Y Y1 := by
    rw [hY1]
    exact ⟨(HY.out.1.alloc _).alloc _, (HY.out.2.1.alloc _).alloc _, ((Below.refl _ Y).alloc (by omega) _).alloc (by simp; omega) _⟩
  have H1 := hide (And.intro hFa h1)
  clear hFa h1 hY1
  go_upto_region 6 with fail
  obtain ⟨Y2, hY2⟩ : ∃ Z, Z = (Y1.alloc (.cells ZN 4)).alloc (.cells #[.int .i64 3, .slice (some ⟨w4.heap.size + 3, 0, none⟩) 729 729] 26) := ⟨_, rfl⟩
  rw [← hY2]
  have hzY2 : Y2.heap.size = w4.heap.size + 5 := by rw [hY2]; simp; omega
  have hFb : FBox Y2 (w4.heap.size + 3 + 1) (w4.heap.size + 3) 3 (List.replicate 729 false) := by
    rw [hY2]
    refine ⟨by rw [List.length_replicate]; exact Blk.new' _ _ _ _ (by simp; omega), ?_⟩
    rw [← HZN.out]
    exact (Blk.new' _ _ _ _ hzY1.symm).alloc _
  have h1 : FBox Y2 (w4.heap.size + 1 + 1) (w4.heap.size + 1) 3 (List.replicate 729 false) ∧ FBox Y2 w2.heap.size gX 2 S ∧ FBox Y2 w4.heap.size gY 2 T ∧ Below (w4.heap.size + 1) Y Y2 := by
    rw [hY2]
    exact ⟨(H1.out.1.alloc _).alloc _, (H1.out.2.1.alloc _).alloc _, (H1.out.2.2.1.alloc _).alloc _, (H1.out.2.2.2.alloc (by omega) _).alloc (by simp; omega) _⟩
  have H2 := hide (And.intro hFb h1)
  clear hFb h1 hY2 H1
  go_upto_region 7 with fail
  obtain ⟨Y3, hY3⟩ : ∃ Z, Z = (Y2.alloc (.cells ZN 4)).alloc (.cells #[.int .i64 3, .slice (some ⟨w4.heap.size + 5, 0, none⟩) 729 729] 26) := ⟨_, rfl⟩
  rw [← hY3]
  have hFc : FBox Y3 (w4.heap.size + 5 + 1) (w4.heap.size + 5) 3 (List.replicate 729 false) := by
    rw [hY3]
    refine ⟨by rw [List.length_replicate]; exact Blk.new' _ _ _ _ (by simp; omega), ?_⟩
    rw [← HZN.out]
    exact (Blk.new' _ _ _ _ hzY2.symm).alloc _
  have hA3 : Ap5 w2.heap.size gX w4.heap.size gY (w4.heap.size + 1) (w4.heap.size + 3) (w4.heap.size + 5) S T Y Y3 (placeF S o0 0) (placeF T o4 0) (bothF S T o0 o4 0) := by
    refine ⟨?_, ?_, ?_, ?_, hFc, ?_⟩
    · rw [hY3]; exact (H2.out.2.2.1.alloc _).alloc _
    · rw [hY3]; exact (H2.out.2.2.2.1.alloc _).alloc _
    · rw [hY3]; exact (H2.out.2.1.alloc _).alloc _
    · rw [hY3]; exact (H2.out.1.alloc _).alloc _
    · rw [hY3]; exact (H2.out.2.2.2.2.alloc (by omega) _).alloc (by simp; omega) _
  have HA3 := hide hA3
  clear hA3 hFc hY3 H2 hzY hzY1 hzY2
  have hdist : ApD w2.heap.size gX w4.heap.size gY (w4.heap.size + 1) (w4.heap.size + 3) (w4.heap.size + 5) := by unfold ApD; omega
  have HD := hide hdist
  have HLen := hide (And.intro HX.out.2.2.2.1 HY.out.2.2.2.2.1)
  clear hdist
  go_wp2_with fail
  go_loopw [11] (fun iv wr => ∃ k : Nat, k ≤ 125 ∧ iv = .int .i64 k ∧ Ap5 w2.heap.size gX w4.heap.size gY (w4.heap.size + 1) (w4.heap.size + 3) (w4.heap.size + 5) S T Y wr (placeF S o0 k) (placeF T o4 k) (bothF S T o0 o4 k)) (fun iv _ => 125 - (intOf iv).toNat)
  case atStart => exact ⟨0, by omega, rfl, HA3.out⟩
  case round =>
    obtain ⟨k, hk, rfl, hI⟩ := hrel
    obtain ⟨V, rfl⟩ : ∃ V, V = wr := ⟨_, rfl⟩
    have HI := hide hI
    clear hI
    by_cases hlt : k < 125
    · have i1 : (k : Int) < 125 := by omega
      go_upto_region 11 with fail
      have hxI : (k : Int) % 5 = ((k % 5 : Nat) : Int) := rfl
      have hyI : (k : Int) / 5 % 5 = ((k / 5 % 5 : Nat) : Int) := rfl
      have hzI : (k : Int) / 25 = ((k / 25 : Nat) : Int) := rfl
      rw [hxI, hyI, hzI]
      clear hxI hyI hzI
      obtain ⟨p, hp⟩ : ∃ i, i = idx9 o0 k := ⟨_, rfl⟩
      obtain ⟨q, hq⟩ : ∃ i, i = idx9 o4 k := ⟨_, rfl⟩
      have hpl : p < 729 := by rw [hp]; exact idx9_lt so0 hlt
      have hql : q < 729 := by rw [hq]; exact idx9_lt so4 hlt
      have hix : ∀ W, Calls Try.prog 17 #[.int .i64 3, .int .i64 ((k % 5 : Nat) : Int), .int .i64 ((k / 5 % 5 : Nat) : Int), .int .i64 ((k / 25 : Nat) : Int)] W fun e w' => e = .returned (.int .i64 (p : Nat)) ∧ w' = W := fun W => by
        have h := index_any 3 (k % 5) (k / 5 % 5) (k / 25) (by omega) (by omega) (by omega) (by omega) (by omega) W
        rw [show idxP 3 (k % 5) (k / 5 % 5) (k / 25) = p by rw [hp]; rfl] at h
        exact h
      obtain ⟨x, hx⟩ : ∃ x, x = k % 5 := ⟨_, rfl⟩
      obtain ⟨y, hy⟩ : ∃ y, y = k / 5 % 5 := ⟨_, rfl⟩
      obtain ⟨z, hz⟩ : ∃ z, z = k / 25 := ⟨_, rfl⟩
      rw [← hx, ← hy, ← hz] at hix
      rw [← hx, ← hy, ← hz]
      have hix' : ∀ W, Calls Try.prog 17 #[.int .i64 3, .int .i64 ((x : Int) + 4), .int .i64 (y : Int), .int .i64 (z : Int)] W fun e w' => e = .returned (.int .i64 (q : Nat)) ∧ w' = W := fun W => by
        have h := index_any 3 (x + 4) y z (by omega) (by omega) (by omega) (by omega) (by omega) W
        rw [show idxP 3 (x + 4) y z = q by rw [hq, hx, hy, hz]; rfl] at h
        exact h
      have hx4 : x ≤ 4 := by omega
      have HS := hide (And.intro hix (And.intro hix' (And.intro hp hq)))
      have hnew := And.intro (new_a S hlt) (And.intro (new_b T hlt) (And.intro (new_p S HY.out.2.2.2.1 hlt) (new_q HX.out.2.2.1 T hlt)))
      have hsc1 := place_succ (new_a S hlt)
      have hsc2 := place_succ (new_b T hlt)
      have hsc3 := both_succ HX.out.2.2.1 HY.out.2.2.2.1 hlt
      rw [← hp, ← hq] at hnew hsc3
      rw [← hp] at hsc1
      rw [← hq] at hsc2
      obtain ⟨s, hs⟩ : ∃ s, s = S.getD k false := ⟨_, rfl⟩
      obtain ⟨t, ht⟩ : ∃ t, t = T.getD k false := ⟨_, rfl⟩
      rw [← hs] at hnew hsc1 hsc3
      rw [← ht] at hsc2 hsc3
      have HNew := hide hnew
      have HVal := hide (And.intro hs.symm ht.symm)
      have HSc := hide (And.intro hsc1 (And.intro hsc2 hsc3))
      clear hix hix' hp hq hx hy hz hnew hs ht hsc1 hsc2 hsc3
      go_wp2_with fail
      refine (HS.out.1 V).mono ?_
      rintro e w' ⟨rfl, hw'⟩
      subst hw'
      go_wp2_with fail
      refine (HS.out.2.1 w').mono ?_
      rintro e w'' ⟨rfl, hw'⟩
      subst hw'
      obtain ⟨V, rfl⟩ : ∃ V, V = w'' := ⟨_, rfl⟩
      have i2 : (p : Int) < 729 := by omega
      have i3 : (q : Int) < 729 := by omega
      go_upto_region 13 with fail
      obtain ⟨a1, a2, a3⟩ := HI.out.fa.reads (N := 729) (placeF_length _ _ _) (hpl) HNew.out.1
      obtain ⟨b1, b2, b3⟩ := HI.out.sx.reads (N := 125) HLen.out.1 hlt HVal.out.1
      clear b3
      have HN13 := hide (HI.out.setA HD.out p s)
      go_still_tail 16, (by kernel_rfl)
      change wpList _ _ _ _ _ V.drew
      go_upto_region 14 with fail
      obtain ⟨U13, hU13⟩ : ∃ U, U = (V.setCell ⟨w4.heap.size + 1, p, none⟩ (.bool s)).drew := ⟨_, rfl⟩
      rw [← hU13]
      rw [← hU13] at HN13
      clear a1 a2 a3 b1 b2 hU13
      obtain ⟨a1, a2, a3⟩ := HN13.out.fb.reads (N := 729) (placeF_length _ _ _) (hql) HNew.out.2.1
      obtain ⟨b1, b2, b3⟩ := HN13.out.sy.reads (N := 125) HLen.out.2 hlt HVal.out.2
      clear b3
      have HN14 := hide (HN13.out.setB HD.out q t)
      go_still_tail 16, (by kernel_rfl)
      change wpList _ _ _ _ _ U13.drew
      go_upto_region 15 with fail
      obtain ⟨U14, hU14⟩ : ∃ U, U = (U13.setCell ⟨w4.heap.size + 3, q, none⟩ (.bool t)).drew := ⟨_, rfl⟩
      rw [← hU14]
      rw [← hU14] at HN14
      clear a1 a2 a3 b1 b2 hU14
      obtain ⟨a1, a2, a3⟩ := HN14.out.fc.reads (N := 729) (bothF_length _ _ _ _ _) (hpl) HNew.out.2.2.1
      obtain ⟨b1, b2, b3⟩ := HN14.out.sx.reads (N := 125) HLen.out.1 hlt HVal.out.1
      clear b3
      have HN15 := hide (HN14.out.setC HD.out p s)
      go_still_tail 16, (by kernel_rfl)
      change wpList _ _ _ _ _ U14.drew
      go_upto_region 16 with fail
      obtain ⟨U15, hU15⟩ : ∃ U, U = (U14.setCell ⟨w4.heap.size + 5, p, none⟩ (.bool s)).drew := ⟨_, rfl⟩
      rw [← hU15]
      rw [← hU15] at HN15
      clear a1 a2 a3 b1 b2 hU15
      obtain ⟨a1, a2, a3⟩ := HN15.out.fc.reads (N := 729) (by rw [List.length_set]; exact bothF_length _ _ _ _ _) (hql) HNew.out.2.2.2
      obtain ⟨b1, b2, b3⟩ := HN15.out.sy.reads (N := 125) HLen.out.2 hlt HVal.out.2
      clear b3
      have HN16 := hide (HN15.out.setC HD.out q t)
      go_still_tail 16, (by kernel_rfl)
      change wpList _ _ _ _ _ U15.drew
      go_wp2
      go_roundw
      case rel => exact ⟨k + 1, by omega, by go_num, by rw [HSc.out.1, HSc.out.2.1, HSc.out.2.2]; exact HN16.out⟩
      case measure => simp [intOf]; omega
    · have hke : k = 125 := by omega
      subst hke
      have hI := HI.out
      have hlaw := apart_law HX.out.2.2.2.2 HY.out.2.2.2.2.2
      have hlaw : canonO (contourP 3 (placeF S o0 125) ++ contourP 3 (placeF T o4 125)) = canonO (contourP 3 (bothF S T o0 o4 125)) := hlaw
      have hla : (placeF S o0 125).length = 729 := placeF_length _ _ _
      have hlb : (placeF T o4 125).length = 729 := placeF_length _ _ _
      have hlc : (bothF S T o0 o4 125).length = 729 := bothF_length _ _ _ _ _
      obtain ⟨FA, hFA⟩ : ∃ F, F = placeF S o0 125 := ⟨_, rfl⟩
      obtain ⟨FB, hFB⟩ : ∃ F, F = placeF T o4 125 := ⟨_, rfl⟩
      obtain ⟨FC, hFC⟩ : ∃ F, F = bothF S T o0 o4 125 := ⟨_, rfl⟩
      rw [← hFA, ← hFB, ← hFC] at hI hlaw
      rw [← hFA] at hla
      rw [← hFB] at hlb
      rw [← hFC] at hlc
      clear hFA hFB hFC
      have hr1 := contour_range3 FA
      have hr2 := contour_range3 FB
      have hr3 := contour_range3 FC
      have hm1 := contour_few3 FA
      have hm2 := contour_few3 FB
      have hm3 := contour_few3 FC
      have hcall : ∀ (g : Nat) (F : List Bool) (W : World), F.length = 729 → g < V.heap.size → Blk V g 4 (F.map Value.bool).toArray → Below V.heap.size V W → Calls Try.prog 15 #[.agg #[.int .i64 3, .slice (some ⟨g, 0, none⟩) 729 729]] W fun e w' => ∃ v, e = .returned v ∧ Own encT 9 40 w' W.heap.size v (contourP 3 F).length (contourP 3 F) ∧ Below W.heap.size W w' := fun g F W hl hg hb hW => by
        have h := contour_any 3 (some ⟨g, 0, none⟩) 729 F W (Sl.of_blk encBl_len (by rw [flat_bl]; exact hb.below hW hg) (by have := hW.size; omega)) (by rw [hl]; decide)
        rw [hl] at h
        exact h
      have hk1 := fun W (hW : Below V.heap.size V W) => hcall _ FA W hla hI.fa.row.lt hI.fa.row hW
      have hk2 := fun W (hW : Below V.heap.size V W) => hcall _ FB W hlb hI.fb.row.lt hI.fb.row hW
      have hk3 := fun W (hW : Below V.heap.size V W) => hcall _ FC W hlc hI.fc.row.lt hI.fc.row hW
      obtain ⟨C1, hC1⟩ : ∃ C, C = contourP 3 FA := ⟨_, rfl⟩
      obtain ⟨C2, hC2⟩ : ∃ C, C = contourP 3 FB := ⟨_, rfl⟩
      obtain ⟨C3, hC3⟩ : ∃ C, C = contourP 3 FC := ⟨_, rfl⟩
      rw [← hC1, ← hC2, ← hC3] at hlaw
      rw [← hC1] at hr1 hm1 hk1
      rw [← hC2] at hr2 hm2 hk2
      rw [← hC3] at hr3 hm3 hk3
      obtain ⟨M1, hM1⟩ : ∃ M, M = C1.length := ⟨_, rfl⟩
      obtain ⟨M2, hM2⟩ : ∃ M, M = C2.length := ⟨_, rfl⟩
      obtain ⟨M3, hM3⟩ : ∃ M, M = C3.length := ⟨_, rfl⟩
      rw [← hM1] at hm1 hk1
      rw [← hM2] at hm2 hk2
      rw [← hM3] at hm3 hk3
      have hS : ∀ W, Below V.heap.size V W → W.cell? ⟨w4.heap.size + 1 + 1, 0, none⟩ = some (.int .i64 3) ∧ W.cell? ⟨w4.heap.size + 1 + 1, 1, none⟩ = some (.slice (some ⟨w4.heap.size + 1, 0, none⟩) 729 729) ∧ W.cell? ⟨w4.heap.size + 3 + 1, 0, none⟩ = some (.int .i64 3) ∧ W.cell? ⟨w4.heap.size + 3 + 1, 1, none⟩ = some (.slice (some ⟨w4.heap.size + 3, 0, none⟩) 729 729) := fun W hW => by
        have a := (hI.fa.below hW hI.fa.box.lt hI.fa.row.lt).two
        have b := (hI.fb.below hW hI.fb.box.lt hI.fb.row.lt).two
        rw [hla] at a
        rw [hlb] at b
        exact ⟨a.1, a.2, b.1, b.2⟩
      have hSc : ∀ W, Below V.heap.size V W → W.cell? ⟨w4.heap.size + 5 + 1, 0, none⟩ = some (.int .i64 3) ∧ W.cell? ⟨w4.heap.size + 5 + 1, 1, none⟩ = some (.slice (some ⟨w4.heap.size + 5, 0, none⟩) 729 729) := fun W hW => by
        have a := (hI.fc.below hW hI.fc.box.lt hI.fc.row.lt).two
        rw [hlc] at a
        exact a
      have hBw : Below w.heap.size w V := HY.out.2.2.1.trans (hI.bel.mono (by omega))
      have HL := hide (And.intro hM1 (And.intro hM2 (And.intro hM3 (And.intro hr1 (And.intro hr2 (And.intro hr3 (And.intro hlaw hBw)))))))
      have HK := hide (And.intro hk1 (And.intro hk2 hk3))
      have HSS := hide (And.intro hS hSc)
      have HQ := hide (hS V.drew (Below.refl _ V).drew)
      clear hM1 hM2 hM3 hr1 hr2 hr3 hlaw hBw hk1 hk2 hk3 hS hSc hcall hI hC1 hC2 hC3 hla hlb hlc
      go_upto_region 17 with fail
      refine wp_region_mix (fun W => W.cell? ⟨w4.heap.size + 1 + 1, 0, none⟩ = some (.int .i64 3) ∧ W.cell? ⟨w4.heap.size + 1 + 1, 1, none⟩ = some (.slice (some ⟨w4.heap.size + 1, 0, none⟩) 729 729) ∧ W.cell? ⟨w4.heap.size + 3 + 1, 0, none⟩ = some (.int .i64 3) ∧ W.cell? ⟨w4.heap.size + 3 + 1, 1, none⟩ = some (.slice (some ⟨w4.heap.size + 3, 0, none⟩) 729 729)) [0, 2] [0, 2, 1, 3, 4, 5] mixed_ok (by kernel_rfl) ?_
      refine wpMix_q (v := .agg #[.int .i64 3, .slice (some ⟨w4.heap.size + 1, 0, none⟩) 729 729]) rfl rfl (fun _ _ _ h => h) HQ.out ⟨rfl, fun _ h' => by simp [go_sem, h'.1, h'.2.1]⟩ ?_
      refine wpMix_q (v := .agg #[.int .i64 3, .slice (some ⟨w4.heap.size + 3, 0, none⟩) 729 729]) rfl rfl (fun _ _ _ h => h) HQ.out ⟨rfl, fun _ h' => by simp [go_sem, h'.2.2.1, h'.2.2.2]⟩ ?_
      simp only [List.getElem_toArray, List.getElem_cons_succ, List.getElem_cons_zero]
      refine wpMix_n rfl rfl ?_
      go_wp2_with fail
      refine (HK.out.1 V.drew (Below.refl _ V).drew).mono ?_
      rintro e w5 ⟨v5, rfl, hown5, hB5⟩
      obtain ⟨A5, c5, rfl⟩ := hown5.form
      have hB5 : Below V.heap.size V w5 := (Below.refl V.heap.size V).drew.trans hB5
      have hz5 := hB5.size
      have H5 := hide (And.intro hown5 hB5)
      clear hown5 hB5
      go_wp2_with fail
      refine ⟨fun _ => HSS.out.1 w5 H5.out.2, ?_⟩
      refine wpMix_tail _ [_, _, _] (by kernel_rfl) rfl ?_
      simp only [List.getElem_toArray, List.getElem_cons_succ, List.getElem_cons_zero]
      go_wp2_with fail
      refine (HK.out.2.1 w5 H5.out.2).mono ?_
      rintro e w6 ⟨v6, rfl, hown6, hB6⟩
      obtain ⟨A6, c6, rfl⟩ := hown6.form
      have hz6 := hB6.size
      have hown56 := H5.out.1.below hB6 (Nat.le_refl _)
      have hsl6 := hown6.sl encT_len (Nat.le_refl _)
      have H6 := hide (And.intro hown56 (And.intro hsl6 (H5.out.2.trans (hB6.mono hz5))))
      clear hown6 hB6 hown56 hsl6
      go_wp2_with (at_builtin; refine wpList_appendS rfl _ _ _ rfl Try.underlying29 infoT rfl (by omega) encT_len encT_one rfl H6.out.1 A6 c6 w6.heap.size C2 (by rw [← HL.out.2.1]; rfl) H6.out.2.1 (by rw [← HL.out.2.1]; unfold maxLen; omega) (by rw [← HL.out.2.1]; omega) (by show V.heap.size ≤ w6.heap.size; omega) ?_; intro v7 w7 hown7 hg7 hB7 hat7; have hB7V : Below V.heap.size V w7 := H6.out.2.2.trans hB7; obtain ⟨s0, s1⟩ := HSS.out.2 w7 hB7V)
      rw [← HL.out.2.1] at hown7
      obtain ⟨M4, hM4⟩ : ∃ M, M = M1 + M2 := ⟨_, rfl⟩
      rw [← hM4] at hown7
      obtain ⟨A7, c7, rfl⟩ := hown7.form
      have hz7 := hB7V.size
      have H7 := hide (And.intro hown7 (And.intro hB7V hM4))
      clear hown7 hB7V hg7 hB7 hat7 hM4
      refine (HK.out.2.2 w7 H7.out.2.1).mono ?_
      rintro e w8 ⟨v8, rfl, hown8, hB8⟩
      obtain ⟨A8, c8, rfl⟩ := hown8.form
      have hz8 := hB8.size
      have hml : (C1 ++ C2).length = M4 := by rw [List.length_append, H7.out.2.2, HL.out.1, HL.out.2.1]
      have hM4b : M4 ≤ 24576 := by rw [H7.out.2.2]; omega
      have hown7 := H7.out.1.below hB8 (Nat.le_refl _)
      have hsame := same04_any A7 A8 c7 c8 (C1 ++ C2) C3 w8 (hown7.sl encT_len (Nat.le_refl _)) (hown8.sl encT_len (Nat.le_refl _)) (by rw [hml]; omega) (by rw [← HL.out.2.2.1]; omega) (fun t ht => by
        rcases List.mem_append.1 ht with ht | ht
        · exact (HL.out.2.2.2.1 t ht).fit
        · exact (HL.out.2.2.2.2.1 t ht).fit) (fun t ht => (HL.out.2.2.2.2.2.1 t ht).fit)
      rw [hml, ← HL.out.2.2.1, decide_eq_true HL.out.2.2.2.2.2.2.1] at hsame
      have H8 := hide (And.intro hsame (H7.out.2.1.trans (hB8.mono hz7)))
      clear hsame hown8 hB8 hown7 hml s0 s1
      go_wp2_with fail
      refine H8.out.1.mono ?_
      rintro e w9 ⟨rfl, hB9⟩
      have hfin : Below w.heap.size w w9 := HL.out.2.2.2.2.2.2.2.trans ((H8.out.2.trans (hB9.mono H8.out.2.size)).mono HL.out.2.2.2.2.2.2.2.size)
      have HFin := hide hfin
      clear hfin hB9
      go_wp2
      go_ret
      exact ⟨rfl, HFin.out⟩
end Go.Proofs.Ytfljcgehhnmamaa
