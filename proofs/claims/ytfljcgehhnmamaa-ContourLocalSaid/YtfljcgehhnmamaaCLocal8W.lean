/- ContourLocal: the walk. -/
import Derived.StillTailTactics
import Derived.Test.YtfljcgehhnmamaaCWithin
import Derived.Test.YtfljcgehhnmamaaCFieldA
import Derived.Test.YtfljcgehhnmamaaCSetW
namespace Go.Proofs.Ytfljcgehhnmamaa
open Go.RowKit Go.Sort
theorem encBl_one (b : Bool) : ∀ u ∈ encBl b, u.oneCell' = true := by
  intro u hu
  rw [List.mem_singleton.1 hu]; rfl
theorem own_empty {α : Type} {enc : α → List Value} {k : Nat} {e : TypeId} (w : World) {base : Nat} (hb : base ≤ w.heap.size) : Own enc k e (w.alloc (.cells #[] e)) base (.slice (some ⟨w.heap.size, 0, none⟩) 0 0) 0 ([] : List α) :=
  ⟨rfl, by simp, .inr ⟨w.heap.size, 0, #[], rfl, hb, heap_alloc_new w _, Nat.le_refl _, by decide, by simp, by simp⟩⟩
theorem own_empty' {α : Type} {enc : α → List Value} {k : Nat} {e : TypeId} (w : World) {base g : Nat} (hg : g = w.heap.size) (hb : base ≤ w.heap.size) : Own enc k e (w.alloc (.cells #[] e)) base (.slice (some ⟨g, 0, none⟩) 0 0) 0 ([] : List α) := by
  subst hg; exact own_empty w hb
set_option maxRecDepth 100000 in
set_option maxHeartbeats 32000000 in
theorem local8_walk (A0 : Option Addr) (c0 : Nat) (ns0 : List Int) (x1 y1 z1 : Nat) (w : World) (hs0 : ns0 ≠ [] → Sl encZ 1 w w.heap.size A0 ns0) (hf0 : ∀ x ∈ ns0, fits x) (hl0 : ns0.length ≤ 9223372036854775807) (_hx1 : x1 < 256) (_hy1 : y1 < 256) (_hz1 : z1 < 256) :
    Calls Try.prog 9 #[.slice A0 ns0.length c0, .agg #[.int .u8 x1, .int .u8 y1, .int .u8 z1]] w fun e w' => e = .returned (.bool true) ∧ Below w.heap.size w w' := by
  have hfd := fun W (hW : Below w.heap.size w W) => field_any 3 (by omega) (by omega) A0 c0 ns0 W (fun hne => ((hs0 hne).below hW).more hW.size) hf0 hl0
  obtain ⟨nl, hnl⟩ : ∃ nl, nl = ns0.length := ⟨_, rfl⟩
  rw [← hnl] at hfd ⊢
  have HF := hide hfd
  clear hfd hs0 hf0 hl0 hnl
  go_enter Try.func9, Try.ntmps9
  go_upto_region 1 with fail
  obtain ⟨X0, hX0⟩ : ∃ X, X = w.alloc (.cells #[.int .u8 x1, .int .u8 y1, .int .u8 z1] 48) := ⟨_, rfl⟩
  rw [← hX0]
  have hB0 : Below w.heap.size w X0 := by rw [hX0]; exact (Below.refl _ w).alloc (Nat.le_refl _) _
  have hv0 : Blk X0 w.heap.size 48 #[.int .u8 x1, .int .u8 y1, .int .u8 z1] := by rw [hX0]; exact Blk.new _ _ _
  have hz0 : X0.heap.size = w.heap.size + 1 := by rw [hX0]; simp
  have H0 := hide (And.intro hB0 hv0)
  clear hB0 hv0 hX0
  go_wp2_with fail
  refine (sanity8_any X0).mono ?_
  rintro e w1 ⟨rfl, hB1⟩
  have hzz1 := hB1.size
  have HB1 := hide (H0.out.1.trans (hB1.mono (by omega)))
  have hv1 := hide (H0.out.2.below hB1 (by omega))
  clear hB1
  go_wp2_with fail
  refine (HF.out w1 HB1.out).mono ?_
  rintro e w2 ⟨gF, F, rfl, hb, hg, hv, hB2⟩
  have hz2 := hB2.size
  have hgFl := hb.lt
  have hlen : F.length = 729 := (valid_parts (l := 3) hv).1
  rw [hlen]
  go_upto_region 3 with fail
  obtain ⟨X, hX⟩ : ∃ X, X = w2.alloc (.cells #[.int .i64 3, .slice (some ⟨gF, 0, none⟩) 729 729] 26) := ⟨_, rfl⟩
  rw [← hX]
  have hFX : FBox X w2.heap.size gF 3 F := by rw [hX]; exact ⟨by rw [hlen]; exact Blk.new _ _ _, hb.alloc _⟩
  have hvX : Blk X w.heap.size 48 #[.int .u8 x1, .int .u8 y1, .int .u8 z1] := by rw [hX]; exact (hv1.out.below hB2 (by omega)).alloc _
  have hBX : Below w.heap.size w X := by rw [hX]; exact (HB1.out.trans (hB2.mono (by omega))).alloc (by omega) _
  have hzX : X.heap.size = w2.heap.size + 1 := by rw [hX]; simp
  have hx1 : X.cell? ⟨w2.heap.size, 1, none⟩ = some (.slice (some ⟨gF, 0, none⟩) 729 729) := by have h := hFX.two.2; rw [hlen] at h; exact h
  have HX := hide (And.intro hFX (And.intro hvX (And.intro hBX (And.intro hv hlen))))
  clear hFX hvX hBX hX hv hb hB2 hlen hv1
  go_upto_region 4 with (at_builtin; refine wpList_appendS (enc := encBl) rfl _ _ _ rfl Try.underlying24 infoBl8 rfl (by omega) encBl_len encBl_one rfl (own_empty' X (g := w2.heap.size + 1) hzX.symm (Nat.le_refl _)) (some ⟨gF, 0, none⟩) 729 (X.heap.size + 1) F (by rw [HX.out.2.2.2.2]; rfl) (((HX.out.1.alloc _).sl (by simp))) (by rw [HX.out.2.2.2.2]; unfold maxLen; omega) (by rw [HX.out.2.2.2.2]; omega) (by simp) ?_; intro v3 w3 hown3 hg3 hB3 hat3; rw [HX.out.2.2.2.2, List.nil_append] at hown3; obtain ⟨gG, c3, rfl, hgGb, hgGl⟩ := hown3.at (fun e => by have h := HX.out.2.2.2.2; rw [e] at h; cases h))
  have hBX3 : Below X.heap.size X w3 := ((Below.refl _ X).alloc (Nat.le_refl _) _).trans hB3
  have hz3 := hBX3.size
  have H3 := hide (And.intro hown3 hBX3)
  clear hown3 hg3 hB3 hat3 hBX3
  obtain ⟨Y, hY⟩ : ∃ Y, Y = w3.alloc (.cells #[.int .i64 3, .slice (some ⟨gG, 0, none⟩) 729 c3] 26) := ⟨_, rfl⟩
  have hzY : Y.heap.size = w3.heap.size + 1 := by rw [hY]; simp
  have hgY : Blk Y w3.heap.size 26 #[.int .i64 3, .slice (some ⟨gG, 0, none⟩) 729 c3] := by rw [hY]; exact Blk.new _ _ _
  have hoY : Own encBl 1 4 Y X.heap.size (.slice (some ⟨gG, 0, none⟩) 729 c3) 729 F := by rw [hY]; exact H3.out.1.alloc _
  have hBY : Below X.heap.size X Y := by rw [hY]; exact H3.out.2.alloc hz3 _
  have hvY := HX.out.2.1.below hBY (by omega)
  have v0 : Y.cell? ⟨w.heap.size, 0, none⟩ = some (.int .u8 x1) := hvY.cell 0
  have v1 : Y.cell? ⟨w.heap.size, 1, none⟩ = some (.int .u8 y1) := hvY.cell 1
  have v2 : Y.cell? ⟨w.heap.size, 2, none⟩ = some (.int .u8 z1) := hvY.cell 2
  have HY := hide (And.intro hgY (And.intro hoY (And.intro hBY hY)))
  clear hgY hoY hBY hvY hY
  rw [← HY.out.2.2.2]
  obtain ⟨x, hx⟩ : ∃ x, x = 1 + x1 % 7 := ⟨_, rfl⟩
  obtain ⟨y, hy⟩ : ∃ y, y = 1 + y1 % 7 := ⟨_, rfl⟩
  obtain ⟨z, hz⟩ : ∃ z, z = 1 + z1 % 7 := ⟨_, rfl⟩
  have hxb : 1 ≤ x ∧ x ≤ 7 := by omega
  have hyb : 1 ≤ y ∧ y ≤ 7 := by omega
  have hzb : 1 ≤ z ∧ z ≤ 7 := by omega
  have ex : 1 + (x1 : Int) % 7 = (x : Int) := by rw [hx]; push_cast; rfl
  have ey : 1 + (y1 : Int) % 7 = (y : Int) := by rw [hy]; push_cast; rfl
  have ez : 1 + (z1 : Int) % 7 = (z : Int) := by rw [hz]; push_cast; rfl
  have HE := hide (And.intro ex (And.intro ey ez))
  clear ex ey ez hx hy hz
  go_upto_region 5 with fail
  rw [HE.out.1, HE.out.2.1, HE.out.2.2]
  obtain ⟨Z, hZ⟩ : ∃ Z, Z = Y.alloc (.cells #[.int .i64 x, .int .i64 y, .int .i64 z] 51) := ⟨_, rfl⟩
  rw [← hZ]
  have hzZ : Z.heap.size = w3.heap.size + 2 := by rw [hZ]; simp; omega
  have hgZ : Blk Z w3.heap.size 26 #[.int .i64 3, .slice (some ⟨gG, 0, none⟩) 729 c3] := by rw [hZ]; exact HY.out.1.alloc _
  have hoZ : Own encBl 1 4 Z X.heap.size (.slice (some ⟨gG, 0, none⟩) 729 c3) 729 F := by rw [hZ]; exact HY.out.2.1.alloc _
  have hBZ : Below X.heap.size X Z := by rw [hZ]; exact HY.out.2.2.1.alloc (by omega) _
  have hcZ : Blk Z (w3.heap.size + 1) 51 #[.int .i64 x, .int .i64 y, .int .i64 z] := by rw [hZ]; exact Blk.new' _ _ _ _ hzY.symm
  have u0 : Z.cell? ⟨w3.heap.size + 1, 0, none⟩ = some (.int .i64 x) := hcZ.cell 0
  have u1 : Z.cell? ⟨w3.heap.size + 1, 1, none⟩ = some (.int .i64 y) := hcZ.cell 1
  have u2 : Z.cell? ⟨w3.heap.size + 1, 2, none⟩ = some (.int .i64 z) := hcZ.cell 2
  have HZ := hide (And.intro hgZ (And.intro hoZ (And.intro hBZ hcZ)))
  clear hgZ hoZ hBZ hcZ hZ v0 v1 v2 HY
  obtain ⟨i, hi⟩ : ∃ i, i = at9 x y z := ⟨_, rfl⟩
  have hix : ∀ W, Calls Try.prog 17 #[.int .i64 3, .int .i64 x, .int .i64 y, .int .i64 z] W fun e w' => e = .returned (.int .i64 (i : Nat)) ∧ w' = W := fun W => by
    have h := index_any 3 x y z (by omega) (by omega) (by omega) (by omega) (by omega) W
    rw [show idxP 3 x y z = i by rw [hi]; rfl] at h
    exact h
  have hil : i < 729 := by rw [hi]; unfold at9; omega
  have HI := hide (And.intro hi hix)
  clear hi hix
  go_wp2_with fail
  refine (HI.out.2 Z).mono ?_
  rintro e w' ⟨rfl, hw'⟩
  subst hw'
  obtain ⟨Z, rfl⟩ : ∃ Z, Z = w' := ⟨_, rfl⟩
  clear u0 u1 u2
  go_upto_region 6 with fail
  have d1 : Z.cell? ⟨w3.heap.size, 1, none⟩ = some (.slice (some ⟨gG, 0, none⟩) 729 c3) := HZ.out.1.cell 1
  obtain ⟨cur, hcur⟩ := HZ.out.2.1.cells gG rfl
  have d3 := Blk.frozen hcur i
  obtain ⟨b', o', hbo, _, hcl⟩ := (HZ.out.2.1.sl encBl_len (Nat.le_refl _)).at (encBl_get (F := F) (i := i) (by rw [HX.out.2.2.2.2]; exact hil))
  cases hbo
  have d2 := hcl 0 _ rfl
  simp only [Nat.zero_add, Nat.mul_one, Nat.add_zero] at d2
  have i2 : (i : Int) < 729 := by omega
  obtain ⟨b, hb⟩ : ∃ b, b = F.getD i false := ⟨_, rfl⟩
  rw [← hb] at d2
  have hput := HZ.out.2.1.setW encBl_len (i := i) (by rw [HX.out.2.2.2.2]; exact hil) (!b)
  rw [Nat.mul_one] at hput
  have hflip : F.set i (!b) = flipF F (at9 x y z) := by rw [hb, ← HI.out.1]; rfl
  rw [hflip] at hput
  have hZs : setW Z gG i (encBl (!b)) = Z.setCell ⟨gG, i, none⟩ (.bool (!b)) := rfl
  rw [hZs] at hput
  have HP := hide hput
  clear hput hflip hZs hb hcl hcur
  go_still_tail 10, (by kernel_rfl)
  change wpList _ _ _ _ _ Z.drew
  go_upto_region 8 with fail
  obtain ⟨V, hV⟩ : ∃ V, V = (Z.setCell ⟨gG, i, none⟩ (.bool (!b))).drew := ⟨_, rfl⟩
  rw [← hV]
  have hoV : Own encBl 1 4 V X.heap.size (.slice (some ⟨gG, 0, none⟩) 729 c3) 729 (flipF F (at9 x y z)) := by rw [hV]; exact HP.out.drew
  have hBV : Below X.heap.size X V := by rw [hV]; exact (HZ.out.2.2.1.setCell hgGb _).drew
  have hgV : Blk V w3.heap.size 26 #[.int .i64 3, .slice (some ⟨gG, 0, none⟩) 729 c3] := by rw [hV]; exact (HZ.out.1.far (p := ⟨gG, i, none⟩) (by dsimp only; omega) _).drew
  have hcV : Blk V (w3.heap.size + 1) 51 #[.int .i64 x, .int .i64 y, .int .i64 z] := by rw [hV]; exact (HZ.out.2.2.2.far (p := ⟨gG, i, none⟩) (by dsimp only; omega) _).drew
  have hFV : FBox V w2.heap.size gF 3 F := HX.out.1.below hBV (by omega) (by omega)
  clear d1 d2 d3 hV HP
  obtain ⟨hl1, hl2, hl3⟩ := loc_law HX.out.2.2.2.1 hxb hyb hzb
  have hvG := flip_valid HX.out.2.2.2.1 hxb hyb hzb
  have hlG : (flipF F (at9 x y z)).length = 729 := by rw [flip_length]; exact HX.out.2.2.2.2
  obtain ⟨G, hG⟩ : ∃ G, G = flipF F (at9 x y z) := ⟨_, rfl⟩
  rw [← hG] at hl1 hl2 hl3 hvG hlG hoV
  obtain ⟨C, hC⟩ : ∃ C, C = contourP 3 F := ⟨_, rfl⟩
  obtain ⟨D, hD⟩ : ∃ D, D = contourP 3 G := ⟨_, rfl⟩
  rw [← hC, ← hD] at hl1 hl2 hl3
  obtain ⟨M, hM⟩ : ∃ M, M = C.length := ⟨_, rfl⟩
  obtain ⟨Md, hMd⟩ : ∃ Md, Md = D.length := ⟨_, rfl⟩
  have hM2 : M ≤ 12288 := by rw [hM, hC]; exact contour_few (l := 3) (by omega) (by omega) HX.out.2.2.2.1
  have hMd2 : Md ≤ 12288 := by rw [hMd, hD]; exact contour_few (l := 3) (by omega) (by omega) hvG
  have hrC : ∀ t ∈ C, rangeT t := by rw [hC]; exact contour_range (l := 3) (by omega) (by omega) HX.out.2.2.2.1
  have hrD : ∀ t ∈ D, rangeT t := by rw [hD]; exact contour_range (l := 3) (by omega) (by omega) hvG
  have hk1 : Calls Try.prog 15 #[.agg #[.int .i64 3, .slice (some ⟨gF, 0, none⟩) 729 729]] V fun e w' => ∃ v, e = .returned v ∧ Own encT 9 40 w' V.heap.size v M C ∧ Below V.heap.size V w' := by
    have h := contour_any 3 (some ⟨gF, 0, none⟩) 729 F V (hFV.sl (Nat.le_refl _)) (by rw [HX.out.2.2.2.2]; decide)
    rw [HX.out.2.2.2.2, ← hC, ← hM] at h
    exact h
  have hk2 : ∀ W, Below V.heap.size V W → Calls Try.prog 15 #[.agg #[.int .i64 3, .slice (some ⟨gG, 0, none⟩) 729 c3]] W fun e w' => ∃ v, e = .returned v ∧ Own encT 9 40 w' W.heap.size v Md D ∧ Below W.heap.size W w' := fun W hW => by
    have h := contour_any 3 (some ⟨gG, 0, none⟩) c3 G W ((hoV.below hW (Nat.le_refl _)).sl encBl_len (Nat.le_refl _)) (by rw [hlG]; decide)
    rw [hlG, ← hD, ← hMd] at h
    exact h
  have a0 : V.cell? ⟨w2.heap.size, 0, none⟩ = some (.int .i64 3) := hFV.two.1
  have a1 : V.cell? ⟨w2.heap.size, 1, none⟩ = some (.slice (some ⟨gF, 0, none⟩) 729 729) := by have h := hFV.two.2; rw [HX.out.2.2.2.2] at h; exact h
  have hBw : Below w.heap.size w V := HX.out.2.2.1.trans (hBV.mono (by have := HX.out.2.2.1.size; omega))
  have hgl := hgV.lt
  have hcl := hcV.lt
  have HB := hide (And.intro hgV (And.intro hcV hBw))
  have HL := hide (And.intro hM (And.intro hMd (And.intro hrC (And.intro hrD (And.intro hl1 (And.intro hl2 hl3))))))
  have HK := hide (And.intro hk1 hk2)
  clear hk1 hk2 hgV hcV hBw hl1 hl2 hl3 hvG hlG hC hD hM hMd hrC hrD hoV hBV hFV hG
  go_wp2_with fail
  refine HK.out.1.mono ?_
  rintro e w4 ⟨v4, rfl, hown4, hB4⟩
  obtain ⟨As, cs, rfl⟩ := hown4.form
  have hz4 := hB4.size
  have hg4 := HB.out.1.below hB4 hgl
  have g0 : w4.cell? ⟨w3.heap.size, 0, none⟩ = some (.int .i64 3) := hg4.cell 0
  have g1 : w4.cell? ⟨w3.heap.size, 1, none⟩ = some (.slice (some ⟨gG, 0, none⟩) 729 c3) := hg4.cell 1
  have H4 := hide (And.intro hown4 hB4)
  clear hown4 hB4 a0 a1 hg4
  go_wp2_with fail
  refine (HK.out.2 w4 H4.out.2).mono ?_
  rintro e w5 ⟨v5, rfl, hown5, hB5⟩
  obtain ⟨At, ct, rfl⟩ := hown5.form
  have hz5 := hB5.size
  have hBV5 : Below V.heap.size V w5 := H4.out.2.trans (hB5.mono hz4)
  have hc5 := HB.out.2.1.below hBV5 hcl
  have s0 : w5.cell? ⟨w3.heap.size + 1, 0, none⟩ = some (.int .i64 x) := hc5.cell 0
  have s1 : w5.cell? ⟨w3.heap.size + 1, 1, none⟩ = some (.int .i64 y) := hc5.cell 1
  have s2 : w5.cell? ⟨w3.heap.size + 1, 2, none⟩ = some (.int .i64 z) := hc5.cell 2
  have hsC := (H4.out.1.below hB5 (Nat.le_refl _)).sl encT_len (Nat.le_refl _)
  have hsD := hown5.sl encT_len (Nat.le_refl _)
  have hq1 := within_true As At cs ct C D x y z w5 hsC hsD (by rw [← HL.out.1]; omega) (by rw [← HL.out.2.1]; omega) HL.out.2.2.1 HL.out.2.2.2.1 ⟨hxb, hyb, hzb⟩ HL.out.2.2.2.2.1
  rw [← HL.out.1, ← HL.out.2.1] at hq1
  have H5 := hide (And.intro hsC (And.intro hsD (And.intro hBV5 hq1)))
  clear hown5 hB5 hBV5 hc5 hsC hsD hq1 g0 g1
  go_wp2_with fail
  refine H5.out.2.2.2.mono ?_
  rintro e w6 ⟨rfl, hB6⟩
  have hz6 := hB6.size
  have hBV6 : Below V.heap.size V w6 := H5.out.2.2.1.trans (hB6.mono (by omega))
  have hc6 := HB.out.2.1.below hBV6 hcl
  have t0 : w6.cell? ⟨w3.heap.size + 1, 0, none⟩ = some (.int .i64 x) := hc6.cell 0
  have t1 : w6.cell? ⟨w3.heap.size + 1, 1, none⟩ = some (.int .i64 y) := hc6.cell 1
  have t2 : w6.cell? ⟨w3.heap.size + 1, 2, none⟩ = some (.int .i64 z) := hc6.cell 2
  have hsC := (H5.out.1.below hB6).more hB6.size
  have hsD := (H5.out.2.1.below hB6).more hB6.size
  have hq2 := within_true At As ct cs D C x y z w6 hsD hsC (by rw [← HL.out.2.1]; omega) (by rw [← HL.out.1]; omega) HL.out.2.2.2.1 HL.out.2.2.1 ⟨hxb, hyb, hzb⟩ HL.out.2.2.2.2.2.1
  rw [← HL.out.1, ← HL.out.2.1] at hq2
  have H6 := hide (And.intro hsC (And.intro hsD (And.intro hBV6 hq2)))
  clear hB6 hBV6 hc6 hsC hsD hq2 s0 s1 s2
  go_wp2_with fail
  refine H6.out.2.2.2.mono ?_
  rintro e w7 ⟨rfl, hB7⟩
  have hBV7 : Below V.heap.size V w7 := H6.out.2.2.1.trans (hB7.mono (by omega))
  have hsame := same05_any As At cs ct C D w7 w7.heap.size w7.heap.size ((H6.out.1.below hB7).more hB7.size) ((H6.out.2.1.below hB7).more hB7.size) (by rw [← HL.out.1]; omega) (by rw [← HL.out.2.1]; omega) (fun t ht => (HL.out.2.2.1 t ht).fit) (fun t ht => (HL.out.2.2.2.1 t ht).fit)
  rw [← HL.out.1, ← HL.out.2.1, decide_eq_false HL.out.2.2.2.2.2.2] at hsame
  have H7 := hide (And.intro hsame (HB.out.2.2.trans (hBV7.mono HB.out.2.2.size)))
  clear hsame hB7 hBV7 t0 t1 t2
  go_wp2_with fail
  refine H7.out.1.mono ?_
  rintro e w8 ⟨rfl, nn, rfl⟩
  have HFin := hide (below_drewN H7.out.2 nn)
  go_wp2
  go_ret
  exact ⟨rfl, HFin.out⟩
end Go.Proofs.Ytfljcgehhnmamaa
