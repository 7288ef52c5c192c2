/- ContourMoved: the walk (printed by mk_Moved8.py). -/
import Derived.StillTailTactics
import Derived.Test.YtfljcgehhnmamaaCPlaceP
import Derived.Test.YtfljcgehhnmamaaCFieldA
import Derived.Test.YtfljcgehhnmamaaCSame05
import Derived.Test.YtfljcgehhnmamaaCPutZ
import Derived.Test.YtfljcgehhnmamaaCBdP
namespace Go.Proofs.Ytfljcgehhnmamaa
open Go.RowKit Go.Sort
/-- What the first loop has: the vector, the small field, the two fields so far. -/
structure MvS (bB bs gS ga ba gb bb base : Nat) (bv : Array Value) (S : List Bool) (o : Nat × Nat × Nat) (w0 wx : World) (k : Nat) : Prop where
  vec : Blk wx bB 48 bv
  src : FBox wx bs gS 2 S
  fa : FBox wx ba ga 3 (placeF S (0, 0, 0) k)
  fb : FBox wx bb gb 3 (placeF S o k)
  bel : Below base w0 wx
theorem MvS.put {bB bs gS ga ba gb bb base : Nat} {bv : Array Value} {S : List Bool} {o : Nat × Nat × Nat} {w0 wx : World} {k : Nat} (h : MvS bB bs gS ga ba gb bb base bv S o w0 wx k) (hd : bB < bs ∧ gS < bs ∧ bs < ga ∧ ga < ba ∧ ba < gb ∧ gb < bb ∧ base ≤ ga) (hS : S.getD k false = true) :
    MvS bB bs gS ga ba gb bb base bv S o w0 (((wx.setCell ⟨ga, idx9 (0, 0, 0) k, none⟩ (.bool true)).drew).setCell ⟨gb, idx9 o k, none⟩ (.bool true)).drew (k + 1) := by
  obtain ⟨h1, h2, h3, h4, h5, h6, h7⟩ := hd
  have e1 : placeF S (0, 0, 0) (k + 1) = (placeF S (0, 0, 0) k).set (idx9 (0, 0, 0) k) true := by rw [placeF, hS, orF_true]
  have e2 : placeF S o (k + 1) = (placeF S o k).set (idx9 o k) true := by rw [placeF, hS, orF_true]
  refine ⟨?_, ?_, ?_, ?_, ?_⟩
  · exact ((h.vec.far (p := ⟨ga, idx9 (0, 0, 0) k, none⟩) (by dsimp only; omega) _).drew.far (p := ⟨gb, idx9 o k, none⟩) (by dsimp only; omega) _).drew
  · exact ((h.src.far (p := ⟨ga, idx9 (0, 0, 0) k, none⟩) (by dsimp only; omega) (by dsimp only; omega) _).drew.far (p := ⟨gb, idx9 o k, none⟩) (by dsimp only; omega) (by dsimp only; omega) _).drew
  · rw [e1]; exact ((h.fa.set (by omega) _ true).drew.far (p := ⟨gb, idx9 o k, none⟩) (by dsimp only; omega) (by dsimp only; omega) _).drew
  · rw [e2]; exact ((h.fb.far (p := ⟨ga, idx9 (0, 0, 0) k, none⟩) (by dsimp only; omega) (by dsimp only; omega) _).drew.set (by omega) _ true).drew
  · exact ((h.bel.setCell (by dsimp only; omega) _).drew.setCell (by dsimp only; omega) _).drew
theorem MvS.skip {bB bs gS ga ba gb bb base : Nat} {bv : Array Value} {S : List Bool} {o : Nat × Nat × Nat} {w0 wx : World} {k : Nat} (h : MvS bB bs gS ga ba gb bb base bv S o w0 wx k) (ho : smallO o) (hk : k < 125) (hS : S.getD k false = false) : MvS bB bs gS ga ba gb bb base bv S o w0 wx (k + 1) := by
  have e1 : placeF S (0, 0, 0) (k + 1) = placeF S (0, 0, 0) k := by rw [placeF, hS, orF_false (by rw [placeF_length]; exact idx9_lt ⟨Nat.zero_le _, Nat.zero_le _, Nat.zero_le _⟩ hk)]
  have e2 : placeF S o (k + 1) = placeF S o k := by rw [placeF, hS, orF_false (by rw [placeF_length]; exact idx9_lt ho hk)]
  exact ⟨h.vec, h.src, by rw [e1]; exact h.fa, by rw [e2]; exact h.fb, h.bel⟩
/-- The first j corners moved. -/
def shJ (v : Pt) (t : Tri) (j : Nat) : Tri := if j = 0 then t else if j = 1 then (addP v t.1, t.2.1, t.2.2) else if j = 2 then (addP v t.1, addP v t.2.1, t.2.2) else shT v t
theorem shJ_0 (v : Pt) (t : Tri) : putZ (putZ (putZ (shJ v t 0) 0 (t.1.1 + v.1)) 1 (t.1.2.1 + v.2.1)) 2 (t.1.2.2 + v.2.2) = shJ v t (0 + 1) := by
  rw [Int.add_comm t.1.1, Int.add_comm t.1.2.1, Int.add_comm t.1.2.2]; rfl
theorem shJ_1 (v : Pt) (t : Tri) : putZ (putZ (putZ (shJ v t 1) 3 (t.2.1.1 + v.1)) 4 (t.2.1.2.1 + v.2.1)) 5 (t.2.1.2.2 + v.2.2) = shJ v t (1 + 1) := by
  rw [Int.add_comm t.2.1.1, Int.add_comm t.2.1.2.1, Int.add_comm t.2.1.2.2]; rfl
theorem shJ_2 (v : Pt) (t : Tri) : putZ (putZ (putZ (shJ v t 2) 6 (t.2.2.1 + v.1)) 7 (t.2.2.2.1 + v.2.1)) 8 (t.2.2.2.2 + v.2.2) = shJ v t (2 + 1) := by
  rw [Int.add_comm t.2.2.1, Int.add_comm t.2.2.2.1, Int.add_comm t.2.2.2.2]; rfl
theorem map_step {f : Tri → Tri} {C L : List Tri} {k : Nat} {t : Tri} (ht : C[k]? = some t) (hL : L = (C.take k).map f ++ C.drop k) : k < L.length ∧ L.set k t = L ∧ L.set k (f t) = (C.take (k + 1)).map f ++ C.drop (k + 1) := by
  have hk : k < C.length := (List.getElem?_eq_some_iff.1 ht).1
  have hd : C.drop k = t :: C.drop (k + 1) := by
    rw [List.drop_eq_getElem_cons hk]
    rw [List.getElem?_eq_getElem hk] at ht
    cases ht; rfl
  have hl : ((C.take k).map f).length = k := by rw [List.length_map, List.length_take]; omega
  have hLk : L.length = C.length := by rw [hL, List.length_append, hl, List.length_drop]; omega
  have key : ∀ u : Tri, L.set k u = (C.take k).map f ++ u :: C.drop (k + 1) := fun u => by
    rw [hL, List.set_append_right _ _ (by omega), hl, Nat.sub_self, hd, List.set_cons_zero]
  refine ⟨by omega, ?_, ?_⟩
  · rw [key, hL, hd]
  · rw [key, List.take_add_one, ht, Option.toList_some, List.map_append, List.append_assoc]; rfl
theorem sh_range {v : Pt} {t : Tri} (h : rangeT t) (hv : rangeP v) : fitsT (shT v t) := by
  obtain ⟨h1, h2, h3⟩ := h
  unfold rangeP at h1 h2 h3 hv
  refine ⟨?_, ?_, ?_⟩ <;> (unfold fitsP fits shT addP; dsimp only; omega)
set_option maxRecDepth 100000 in
set_option maxHeartbeats 32000000 in
theorem moved8_walk (A0 : Option Addr) (c0 : Nat) (ns0 : List Int) (x1 y1 z1 : Nat) (w : World) (hs0 : ns0 ≠ [] → Sl encZ 1 w w.heap.size A0 ns0) (hf0 : ∀ x ∈ ns0, fits x) (hl0 : ns0.length ≤ 9223372036854775807) (_hx1 : x1 < 256) (_hy1 : y1 < 256) (_hz1 : z1 < 256) :
    Calls Try.prog 7 #[.slice A0 ns0.length c0, .agg #[.int .u8 x1, .int .u8 y1, .int .u8 z1]] w fun e w' => e = .returned (.bool true) ∧ Below w.heap.size w w' := by
  have hfd := fun W (hW : Below w.heap.size w W) => field_any 2 (by omega) (by omega) A0 c0 ns0 W (fun hne => ((hs0 hne).below hW).more hW.size) hf0 hl0
  obtain ⟨nl, hnl⟩ : ∃ nl, nl = ns0.length := ⟨_, rfl⟩
  rw [← hnl] at hfd ⊢
  have HF := hide hfd
  clear hfd hs0 hf0 hl0 hnl
  have hm729 : ∀ W : World, (Instr.makeSlice 24 (.int .i64 729) (.int .i64 729)).run Try.prog W = .ok (.slice (some ⟨W.heap.size, 0, none⟩) 729 729) (W.alloc (.cells ((List.replicate 729 false).map Value.bool).toArray 4)) := mk_bl 729 (by omega)
  obtain ⟨ZN, hZN⟩ : ∃ Z, Z = ((List.replicate 729 false).map Value.bool).toArray := ⟨_, rfl⟩
  rw [← hZN] at hm729
  have HZN := hide hZN
  clear hZN
  go_enter Try.func7, Try.ntmps7
  go_upto_region 1 with fail
  obtain ⟨X0, hX0⟩ : ∃ X, X = w.alloc (.cells #[.int .u8 x1, .int .u8 y1, .int .u8 z1] 48) := ⟨_, rfl⟩
  rw [← hX0]
  have hB0 : Below w.heap.size w X0 := by rw [hX0]; exact (Below.refl _ w).alloc (Nat.le_refl _) _
  have hv0 : Blk X0 w.heap.size 48 #[.int .u8 x1, .int .u8 y1, .int .u8 z1] := by rw [hX0]; exact Blk.new _ _ _
  have hz0 : X0.heap.size = w.heap.size + 1 := by rw [hX0]; simp
  have H0 := hide (And.intro hB0 hv0)
  clear hB0 hv0 hX0
  go_wp2_with fail
  refine (sanity8_any X0).mono ?_
  rintro e w1 ⟨rfl, hB1⟩
  have hzz1 := hB1.size
  have HB1 := hide (H0.out.1.trans (hB1.mono (by omega)))
  have hv1 := hide (H0.out.2.below hB1 (by omega))
  clear hB1
  go_wp2_with fail
  refine (HF.out w1 HB1.out).mono ?_
  rintro e w2 ⟨gS, S, rfl, hb, hg, hv, hB2⟩
  have hz2 := hB2.size
  have hgSl := hb.lt
  have hlen : S.length = 125 := (valid_parts (l := 2) hv).1
  rw [hlen]
  go_upto_region 3 with fail
  obtain ⟨X, hX⟩ : ∃ X, X = w2.alloc (.cells #[.int .i64 2, .slice (some ⟨gS, 0, none⟩) 125 125] 26) := ⟨_, rfl⟩
  rw [← hX]
  have hFX : FBox X w2.heap.size gS 2 S := by rw [hX]; exact ⟨by rw [hlen]; exact Blk.new _ _ _, hb.alloc _⟩
  have hvX : Blk X w.heap.size 48 #[.int .u8 x1, .int .u8 y1, .int .u8 z1] := by rw [hX]; exact (hv1.out.below hB2 (by omega)).alloc _
  have hBX : Below w.heap.size w X := by rw [hX]; exact (HB1.out.trans (hB2.mono (by omega))).alloc (by omega) _
  have hzX : X.heap.size = w2.heap.size + 1 := by rw [hX]; simp
  have HX := hide (And.intro hFX (And.intro hvX (And.intro hBX (And.intro hv hlen))))
  clear hFX hvX hBX hX hv hb hB2 hlen hv1
  go_upto_region 4 with fail
  obtain ⟨Y, hY⟩ : ∃ Y, Y = (X.alloc (.cells ZN 4)).alloc (.cells #[.int .i64 3, .slice (some ⟨w2.heap.size + 1, 0, none⟩) 729 729] 26) := ⟨_, rfl⟩
  rw [← hY]
  have hzY : Y.heap.size = w2.heap.size + 3 := by rw [hY]; simp; omega
  have hFY : FBox Y (w2.heap.size + 1 + 1) (w2.heap.size + 1) 3 (List.replicate 729 false) := by
    rw [hY]
    refine ⟨by rw [List.length_replicate]; exact Blk.new' _ _ _ _ (by simp; omega), ?_⟩
    rw [← HZN.out]
    exact (Blk.new' _ _ _ _ hzX.symm).alloc _
  have hSY : FBox Y w2.heap.size gS 2 S := by rw [hY]; exact (HX.out.1.alloc _).alloc _
  have hvY : Blk Y w.heap.size 48 #[.int .u8 x1, .int .u8 y1, .int .u8 z1] := by rw [hY]; exact (HX.out.2.1.alloc _).alloc _
  have hBY : Below (w2.heap.size + 1) X Y := by rw [hY]; exact ((Below.refl _ X).alloc (by omega) _).alloc (by simp; omega) _
  have HY := hide (And.intro hFY (And.intro hSY (And.intro hvY hBY)))
  clear hFY hSY hvY hBY hY
  go_upto_region 5 with fail
  obtain ⟨Z, hZ⟩ : ∃ Z, Z = (Y.alloc (.cells ZN 4)).alloc (.cells #[.int .i64 3, .slice (some ⟨w2.heap.size + 3, 0, none⟩) 729 729] 26) := ⟨_, rfl⟩
  rw [← hZ]
  have hzZ : Z.heap.size = w2.heap.size + 5 := by rw [hZ]; simp; omega
  have hMZ : ∀ o, MvS w.heap.size w2.heap.size gS (w2.heap.size + 1) (w2.heap.size + 1 + 1) (w2.heap.size + 3) (w2.heap.size + 3 + 1) (w2.heap.size + 1) #[.int .u8 x1, .int .u8 y1, .int .u8 z1] S o X Z 0 := by
    intro o
    rw [hZ]
    refine ⟨(HY.out.2.2.1.alloc _).alloc _, (HY.out.2.1.alloc _).alloc _, (HY.out.1.alloc _).alloc _, ⟨?_, ?_⟩, (HY.out.2.2.2.alloc (by omega) _).alloc (by simp; omega) _⟩
    · rw [placeF_length]; exact Blk.new' _ _ _ _ (by simp; omega)
    · show Blk _ _ _ ((List.replicate 729 false).map Value.bool).toArray
      rw [← HZN.out]
      exact (Blk.new' _ _ _ _ hzY.symm).alloc _
  have HMZ := hide hMZ
  clear hMZ hZ HY
  obtain ⟨ox, hox⟩ : ∃ ox, ox = x1 % 3 := ⟨_, rfl⟩
  obtain ⟨oy, hoy⟩ : ∃ oy, oy = y1 % 3 := ⟨_, rfl⟩
  obtain ⟨oz, hoz⟩ : ∃ oz, oz = z1 % 3 := ⟨_, rfl⟩
  have hox3 : ox ≤ 2 := by omega
  have hoy3 : oy ≤ 2 := by omega
  have hoz3 : oz ≤ 2 := by omega
  have hso : smallO (ox, oy, oz) := ⟨by dsimp only; omega, by dsimp only; omega, by dsimp only; omega⟩
  have tx : Int.tmod (x1 : Int) 3 = (ox : Int) := by rw [hox]; rfl
  have ty : Int.tmod (y1 : Int) 3 = (oy : Int) := by rw [hoy]; rfl
  have tz : Int.tmod (z1 : Int) 3 = (oz : Int) := by rw [hoz]; rfl
  have HT := hide (And.intro tx (And.intro ty tz))
  clear tx ty tz hox hoy hoz
  have hdist : w.heap.size < w2.heap.size ∧ gS < w2.heap.size ∧ w2.heap.size < w2.heap.size + 1 ∧ w2.heap.size + 1 < w2.heap.size + 1 + 1 ∧ w2.heap.size + 1 + 1 < w2.heap.size + 3 ∧ w2.heap.size + 3 < w2.heap.size + 3 + 1 ∧ w2.heap.size + 1 ≤ w2.heap.size + 1 := by omega
  have HD := hide hdist
  clear hdist
  go_wp2_with fail
  go_loopw [9] (fun iv wr => ∃ k : Nat, k ≤ 125 ∧ iv = .int .i64 k ∧ MvS w.heap.size w2.heap.size gS (w2.heap.size + 1) (w2.heap.size + 1 + 1) (w2.heap.size + 3) (w2.heap.size + 3 + 1) (w2.heap.size + 1) #[.int .u8 x1, .int .u8 y1, .int .u8 z1] S (ox, oy, oz) X wr k) (fun iv _ => 125 - (intOf iv).toNat)
  case atStart => exact ⟨0, by omega, rfl, HMZ.out _⟩
  case round =>
    obtain ⟨k, hk, rfl, hI⟩ := hrel
    obtain ⟨V, rfl⟩ : ∃ V, V = wr := ⟨_, rfl⟩
    have HI := hide hI
    clear hI
    by_cases hlt : k < 125
    · have i1 : (k : Int) < 125 := by omega
      have c1 : V.cell? ⟨w2.heap.size, 1, none⟩ = some (.slice (some ⟨gS, 0, none⟩) 125 125) := by have h := HI.out.src.two.2; rw [HX.out.2.2.2.2] at h; exact h
      have c2 : V.cell? ⟨gS, k, none⟩ = some (.bool (S.getD k false)) := HI.out.src.cell (by rw [HX.out.2.2.2.2]; exact hlt)
      cases hSk : S.getD k false with
      | false =>
        rw [hSk] at c2
        have HSk := hide hSk
        clear hSk
        go_wp2_with fail
        go_roundw
        case rel => exact ⟨k + 1, by omega, by go_num, HI.out.skip hso hlt HSk.out⟩
        case measure => simp [intOf]; omega
      | true =>
        rw [hSk] at c2
        have HSk := hide hSk
        clear hSk
        go_upto_region 10 with fail
        have hxI : (k : Int) % 5 = ((k % 5 : Nat) : Int) := rfl
        have hyI : (k : Int) / 5 % 5 = ((k / 5 % 5 : Nat) : Int) := rfl
        have hzI : (k : Int) / 25 = ((k / 25 : Nat) : Int) := rfl
        rw [hxI, hyI, hzI]
        clear hxI hyI hzI c1 c2
        obtain ⟨i, hi⟩ : ∃ i, i = idx9 (0, 0, 0) k := ⟨_, rfl⟩
        obtain ⟨i', hi'⟩ : ∃ i, i = idx9 (ox, oy, oz) k := ⟨_, rfl⟩
        have hil : i < 729 := by rw [hi]; exact idx9_lt ⟨Nat.zero_le _, Nat.zero_le _, Nat.zero_le _⟩ hlt
        have hil' : i' < 729 := by rw [hi']; exact idx9_lt hso hlt
        have hix : ∀ W, Calls Try.prog 17 #[.int .i64 3, .int .i64 ((k % 5 : Nat) : Int), .int .i64 ((k / 5 % 5 : Nat) : Int), .int .i64 ((k / 25 : Nat) : Int)] W fun e w' => e = .returned (.int .i64 (i : Nat)) ∧ w' = W := fun W => by
          have h := index_any 3 (k % 5) (k / 5 % 5) (k / 25) (by omega) (by omega) (by omega) (by omega) (by omega) W
          rw [show idxP 3 (k % 5) (k / 5 % 5) (k / 25) = i by rw [hi]; rfl] at h
          exact h
        obtain ⟨x, hx⟩ : ∃ x, x = k % 5 := ⟨_, rfl⟩
        obtain ⟨y, hy⟩ : ∃ y, y = k / 5 % 5 := ⟨_, rfl⟩
        obtain ⟨z, hz⟩ : ∃ z, z = k / 25 := ⟨_, rfl⟩
        rw [← hx, ← hy, ← hz] at hix
        rw [← hx, ← hy, ← hz]
        have hix' : ∀ W, Calls Try.prog 17 #[.int .i64 3, .int .i64 ((x : Int) + (ox : Int)), .int .i64 ((y : Int) + (oy : Int)), .int .i64 ((z : Int) + (oz : Int))] W fun e w' => e = .returned (.int .i64 (i' : Nat)) ∧ w' = W := fun W => by
          have h := index_any 3 (x + ox) (y + oy) (z + oz) (by omega) (by omega) (by omega) (by omega) (by omega) W
          rw [show idxP 3 (x + ox) (y + oy) (z + oz) = i' by rw [hi', hx, hy, hz]; rfl] at h
          exact h
        have sx : IntKind.i64.wrap ((x : Int) + (ox : Int)) = (x : Int) + (ox : Int) := IntWalk.i64_in _ (by omega)
        have sy : IntKind.i64.wrap ((y : Int) + (oy : Int)) = (y : Int) + (oy : Int) := IntWalk.i64_in _ (by omega)
        have sz : IntKind.i64.wrap ((z : Int) + (oz : Int)) = (z : Int) + (oz : Int) := IntWalk.i64_in _ (by omega)
        have HS := hide (And.intro hix (And.intro hix' (And.intro hi hi')))
        have HW := hide (And.intro sx (And.intro sy sz))
        clear hix hix' hi hi' sx sy sz hx hy hz
        have d1 : V.cell? ⟨w2.heap.size + 1 + 1, 1, none⟩ = some (.slice (some ⟨w2.heap.size + 1, 0, none⟩) 729 729) := by have h := HI.out.fa.two.2; rw [placeF_length] at h; exact h
        have d2 : V.cell? ⟨w2.heap.size + 1, i, none⟩ = some (.bool ((placeF S (0, 0, 0) k).getD i false)) := HI.out.fa.cell (by rw [placeF_length]; exact hil)
        have d3 := HI.out.fa.row.frozen i
        have i2 : (i : Int) < 729 := by omega
        go_still_tail 7, (by kernel_rfl)
        still_call (HS.out.1 _)
        repeat still_step
        refine wpStill_nil ?_
        change wpList _ _ _ _ _ V.drew
        go_upto_region 11 with fail
        obtain ⟨U, hU⟩ : ∃ U, U = (V.setCell ⟨w2.heap.size + 1, i, none⟩ (.bool true)).drew := ⟨_, rfl⟩
        rw [← hU]
        have e1 : U.cell? ⟨w2.heap.size + 3 + 1, 1, none⟩ = some (.slice (some ⟨w2.heap.size + 3, 0, none⟩) 729 729) := by
          rw [hU]
          have h := (HI.out.fb.far (p := ⟨w2.heap.size + 1, i, none⟩) (by dsimp only; omega) (by dsimp only; omega) (.bool true)).drew.two.2
          rw [placeF_length] at h
          exact h
        have e2 : U.cell? ⟨w2.heap.size + 3, i', none⟩ = some (.bool ((placeF S (ox, oy, oz) k).getD i' false)) := by
          rw [hU]
          exact (HI.out.fb.far (p := ⟨w2.heap.size + 1, i, none⟩) (by dsimp only; omega) (by dsimp only; omega) (.bool true)).drew.cell (by rw [placeF_length]; exact hil')
        have e3 : U.frozen? ⟨w2.heap.size + 3, i', none⟩ = false := by
          rw [hU]
          exact (HI.out.fb.far (p := ⟨w2.heap.size + 1, i, none⟩) (by dsimp only; omega) (by dsimp only; omega) (.bool true)).drew.row.frozen i'
        have hvU : Blk U w.heap.size 48 #[.int .u8 x1, .int .u8 y1, .int .u8 z1] := by
          rw [hU]
          exact (HI.out.vec.far (p := ⟨w2.heap.size + 1, i, none⟩) (by dsimp only; omega) (.bool true)).drew
        have v0 : U.cell? ⟨w.heap.size, 0, none⟩ = some (.int .u8 x1) := hvU.cell 0
        have v1 : U.cell? ⟨w.heap.size, 1, none⟩ = some (.int .u8 y1) := hvU.cell 1
        have v2 : U.cell? ⟨w.heap.size, 2, none⟩ = some (.int .u8 z1) := hvU.cell 2
        have hput := HI.out.put HD.out HSk.out
        rw [← HS.out.2.2.1, ← HS.out.2.2.2, ← hU] at hput
        have HP := hide hput
        clear hput hvU d1 d2 d3 hU
        have i3 : (i' : Int) < 729 := by omega
        have wx : IntKind.i64.wrap (ox : Int) = (ox : Int) := IntWalk.i64_in _ (by omega)
        have wy : IntKind.i64.wrap (oy : Int) = (oy : Int) := IntWalk.i64_in _ (by omega)
        have wz : IntKind.i64.wrap (oz : Int) = (oz : Int) := IntWalk.i64_in _ (by omega)
        have t1 := HT.out.1
        have t2 := HT.out.2.1
        have t3 := HT.out.2.2
        have s1 := HW.out.1
        have s2 := HW.out.2.1
        have s3 := HW.out.2.2
        go_still_tail 22, (by kernel_rfl)
        still_call (HS.out.2.1 _)
        repeat still_step
        refine wpStill_nil ?_
        change wpList _ _ _ _ _ U.drew
        go_wp2
        go_roundw
        case rel => exact ⟨k + 1, by omega, by go_num, HP.out⟩
        case measure => simp [intOf]; omega
    · have hke : k = 125 := by omega
      subst hke
      have hvF : validF (3 : Nat) (placeF S (0, 0, 0) 125) = true := place_valid ⟨Nat.zero_le _, Nat.zero_le _, Nat.zero_le _⟩ (inS_of HX.out.2.2.2.1)
      have hvG : validF (3 : Nat) (placeF S (ox, oy, oz) 125) = true := place_valid hso (inS_of HX.out.2.2.2.1)
      have hlaw := moved_law hso HX.out.2.2.2.1
      obtain ⟨v, hv⟩ : ∃ v : Pt, v = (262144 * (ox : Int), 262144 * (oy : Int), 262144 * (oz : Int)) := ⟨_, rfl⟩
      have hlaw : (contourP 3 (placeF S (0, 0, 0) 125)).map (shT v) = contourP 3 (placeF S (ox, oy, oz) 125) := by rw [hv]; exact hlaw
      have hvr : rangeP v := by rw [hv]; unfold rangeP; dsimp only; omega
      obtain ⟨C, hC⟩ : ∃ C, C = contourP 3 (placeF S (0, 0, 0) 125) := ⟨_, rfl⟩
      obtain ⟨D, hD⟩ : ∃ D, D = contourP 3 (placeF S (ox, oy, oz) 125) := ⟨_, rfl⟩
      rw [← hC, ← hD] at hlaw
      obtain ⟨M, hM⟩ : ∃ M, M = C.length := ⟨_, rfl⟩
      obtain ⟨Md, hMd⟩ : ∃ Md, Md = D.length := ⟨_, rfl⟩
      have hM2 : M ≤ 12288 := by rw [hM, hC]; exact contour_few (l := 3) (by omega) (by omega) hvF
      have hMd2 : Md ≤ 12288 := by rw [hMd, hD]; exact contour_few (l := 3) (by omega) (by omega) hvG
      have hrC : ∀ t ∈ C, rangeT t := by rw [hC]; exact contour_range (l := 3) (by omega) (by omega) hvF
      have hrD : ∀ t ∈ D, rangeT t := by rw [hD]; exact contour_range (l := 3) (by omega) (by omega) hvG
      have hI := HI.out
      have hk1 : Calls Try.prog 15 #[.agg #[.int .i64 3, .slice (some ⟨w2.heap.size + 1, 0, none⟩) 729 729]] V fun e w' => ∃ v, e = .returned v ∧ Own encT 9 40 w' V.heap.size v M C ∧ Below V.heap.size V w' := by
        have h := contour_any 3 (some ⟨w2.heap.size + 1, 0, none⟩) 729 (placeF S (0, 0, 0) 125) V (hI.fa.sl (Nat.le_refl _)) (by rw [placeF_length]; decide)
        rw [placeF_length, ← hC, ← hM] at h
        exact h
      have hk2 : ∀ W, Below V.heap.size V W → Calls Try.prog 15 #[.agg #[.int .i64 3, .slice (some ⟨w2.heap.size + 3, 0, none⟩) 729 729]] W fun e w' => ∃ v, e = .returned v ∧ Own encT 9 40 w' W.heap.size v Md D ∧ Below W.heap.size W w' := fun W hW => by
        have h := contour_any 3 (some ⟨w2.heap.size + 3, 0, none⟩) 729 (placeF S (ox, oy, oz) 125) W ((hI.fb.below hW hI.fb.box.lt hI.fb.row.lt).sl (Nat.le_refl _)) (by rw [placeF_length]; decide)
        rw [placeF_length, ← hD, ← hMd] at h
        exact h
      have a0 := hI.fa.two.1
      have a1 := hI.fa.two.2
      rw [placeF_length] at a1
      have d0 := hI.fb.two.1
      have d1 := hI.fb.two.2
      rw [placeF_length] at d1
      have hgfl := hI.fb.box.lt
      have hvl := hI.vec.lt
      have w0 : V.cell? ⟨w.heap.size, 0, none⟩ = some (.int .u8 x1) := hI.vec.cell 0
      have w1' : V.cell? ⟨w.heap.size, 1, none⟩ = some (.int .u8 y1) := hI.vec.cell 1
      have w2' : V.cell? ⟨w.heap.size, 2, none⟩ = some (.int .u8 z1) := hI.vec.cell 2
      have hBw : Below w.heap.size w V := HX.out.2.2.1.trans (hI.bel.mono (by omega))
      have HL := hide (And.intro hM (And.intro hMd (And.intro hrC (And.intro hrD (And.intro hlaw (And.intro hBw hvr))))))
      have HVc := hide (And.intro w0 (And.intro w1' w2'))
      have HV := hide hv
      have HK := hide (And.intro hk1 hk2)
      clear hk1 hk2 hI hlaw hvF hvG hC hD hM hMd hrC hrD hBw w0 w1' w2' hv hvr
      go_wp2_with fail
      refine HK.out.1.mono ?_
      rintro e w4 ⟨v4, rfl, hown4, hB4⟩
      obtain ⟨As, cs, rfl⟩ := hown4.form
      have hz4 := hB4.size
      have d0' := (hB4.cell (p := ⟨w2.heap.size + 3 + 1, 0, none⟩) hgfl).trans d0
      have d1' := (hB4.cell (p := ⟨w2.heap.size + 3 + 1, 1, none⟩) hgfl).trans d1
      have H4 := hide (And.intro hown4 hB4)
      clear hown4 hB4 d0 d1 a0 a1
      go_wp2_with fail
      refine (HK.out.2 w4 H4.out.2).mono ?_
      rintro e w5 ⟨v5, rfl, hown5, hB5⟩
      obtain ⟨At, ct, rfl⟩ := hown5.form
      have hz5 := hB5.size
      have H5 := hide (And.intro (H4.out.1.below hB5 (Nat.le_refl _)) (And.intro hown5 (H4.out.2.trans (hB5.mono hz4))))
      have hpl := H4.out.1.place.2
      clear hown5 hB5 d0' d1'
      go_wp2_with fail
      go_loopw [16] (fun iv wr => ∃ k : Nat, k ≤ M ∧ iv = .int .i64 k ∧ Own encT 9 40 wr V.heap.size (.slice As M cs) M ((C.take k).map (shT v) ++ C.drop k) ∧ Own encT 9 40 wr w4.heap.size (.slice At Md ct) Md D ∧ Below V.heap.size V wr) (fun iv _ => M - (intOf iv).toNat)
      case atStart => exact ⟨0, by omega, rfl, H5.out.1, H5.out.2.1, H5.out.2.2⟩
      case round =>
        obtain ⟨k, hk, rfl, hown, hownt, hB⟩ := hrel
        by_cases hlt : k < M
        · have i1 : (k : Int) < (M : Int) := by omega
          have hkC : k < C.length := by rw [← HL.out.1]; exact hlt
          obtain ⟨t0, ht0⟩ : ∃ t, C[k]? = some t := ⟨_, List.getElem?_eq_getElem hkC⟩
          have hne0 : C ≠ [] := fun e => by rw [e] at ht0; cases ht0
          obtain ⟨gs, hAs, hgsV, hgs4⟩ : ∃ gs, As = some ⟨gs, 0, none⟩ ∧ V.heap.size ≤ gs ∧ gs < w4.heap.size := by
            rcases hpl with ⟨h, _⟩ | h
            · exact absurd h hne0
            · exact h
          subst hAs
          obtain ⟨L, hL⟩ : ∃ L, L = (C.take k).map (shT v) ++ C.drop k := ⟨_, rfl⟩
          obtain ⟨hkL, hL0, hLs⟩ := map_step ht0 hL
          rw [← hL] at hown
          have hrt := HL.out.2.2.1 t0 (List.mem_of_getElem? ht0)
          have HS := hide (And.intro hL (And.intro hL0 (And.intro hLs (And.intro ht0 (And.intro hne0 hrt)))))
          have H0 := hide (And.intro hown (And.intro hownt hB))
          clear hL hL0 hLs ht0 hne0 hown hownt hB hkC hrt
          go_wp2
          go_loopw [17] (fun jv wr => ∃ j : Nat, j ≤ 3 ∧ jv = .int .i64 j ∧ Own encT 9 40 wr V.heap.size (.slice (some ⟨gs, 0, none⟩) M cs) M (L.set k (shJ v t0 j)) ∧ Own encT 9 40 wr w4.heap.size (.slice At Md ct) Md D ∧ Below V.heap.size V wr) (fun jv _ => 3 - (intOf jv).toNat)
          case atStart => exact ⟨0, by omega, rfl, by rw [show shJ v t0 0 = t0 from rfl, HS.out.2.1]; exact H0.out.1, H0.out.2.1, H0.out.2.2⟩
          case round =>
            obtain ⟨j, hj, rfl, hown, hownt, hB⟩ := hrel
            by_cases hj3 : j < 3
            · have hc : j = 0 ∨ j = 1 ∨ j = 2 := by omega
              rcases hc with rfl | rfl | rfl
              · have HO := hide (And.intro hown (And.intro hownt hB))
                clear hown hownt hB
                have hlk0 : (L.set k (shJ v t0 0))[k]? = some (shJ v t0 0) := List.getElem?_set_self hkL
                obtain ⟨qa, qb, q2⟩ := HO.out.1.atZ hlk0 (m := 0) (by omega)
                obtain ⟨p0, hp0⟩ : ∃ p : Int, p = t0.1.1 := ⟨_, rfl⟩
                have q0 : wr.cell? ⟨gs, k * 9, none⟩ = some (.int .i64 p0) := by rw [hp0]; exact qa
                have q1 : wr.frozen? ⟨gs, k * 9, none⟩ = false := qb
                clear qa qb
                have r0 := HS.out.2.2.2.2.2.1.1
                rw [← hp0] at r0
                have vv : wr.cell? ⟨w.heap.size, 0, none⟩ = some (.int .u8 x1) := (HO.out.2.2.cell (p := ⟨w.heap.size, 0, none⟩) hvl).trans HVc.out.1
                have u0 : IntKind.i64.wrap (ox : Int) = (ox : Int) := IntWalk.i64_in _ (by omega)
                have u1 : IntKind.i64.wrap (262144 * (ox : Int)) = 262144 * (ox : Int) := IntWalk.i64_in _ (by omega)
                have u2 : IntKind.i64.wrap (p0 + 262144 * (ox : Int)) = p0 + 262144 * (ox : Int) := IntWalk.i64_in _ (by omega)
                have u3 := HT.out.1
                have hput := HO.out.1.putZ hlk0 (m := 0) (by omega) (p0 + 262144 * (ox : Int))
                rw [List.set_set] at hput
                have HN := hide (And.intro hput (And.intro (HO.out.2.1.off (o := k * 9) hgs4 (.int .i64 (p0 + 262144 * (ox : Int)))) (HO.out.2.2.setCell (p := ⟨gs, k * 9, none⟩) hgsV (.int .i64 (p0 + 262144 * (ox : Int))))))
                have HPp0 := hide hp0
                clear hput HO hlk0 hp0
                go_upto_region 21 with fail
                go_still_tail 17, (by kernel_rfl)
                change wpList _ _ _ _ _ wr.drew
                go_upto_region 22 with fail
                obtain ⟨Y0, hY0⟩ : ∃ Y, Y = (wr.setCell ⟨gs, k * 9, none⟩ (.int .i64 (p0 + 262144 * (ox : Int)))).drew := ⟨_, rfl⟩
                rw [← hY0]
                have HO : Hid (Own encT 9 40 Y0 V.heap.size (.slice (some ⟨gs, 0, none⟩) M cs) M (L.set k (putZ (shJ v t0 0) 0 (p0 + 262144 * (ox : Int)))) ∧ Own encT 9 40 Y0 w4.heap.size (.slice At Md ct) Md D ∧ Below V.heap.size V Y0) := by
                  rw [hY0]; exact ⟨HN.out.1.drew, HN.out.2.1.drew, HN.out.2.2.drew⟩
                clear q0 q1 q2 vv u0 u1 u2 u3 HN hY0
                have hlk1 : (L.set k (putZ (shJ v t0 0) 0 (p0 + 262144 * (ox : Int))))[k]? = some (putZ (shJ v t0 0) 0 (p0 + 262144 * (ox : Int))) := List.getElem?_set_self hkL
                obtain ⟨qa, qb, q2⟩ := HO.out.1.atZ hlk1 (m := 1) (by omega)
                obtain ⟨p1, hp1⟩ : ∃ p : Int, p = t0.1.2.1 := ⟨_, rfl⟩
                have q0 : Y0.cell? ⟨gs, k * 9 + 1, none⟩ = some (.int .i64 p1) := by rw [hp1]; exact qa
                have q1 : Y0.frozen? ⟨gs, k * 9 + 1, none⟩ = false := qb
                clear qa qb
                have r1 := HS.out.2.2.2.2.2.1.2.1
                rw [← hp1] at r1
                have vv : Y0.cell? ⟨w.heap.size, 1, none⟩ = some (.int .u8 y1) := (HO.out.2.2.cell (p := ⟨w.heap.size, 1, none⟩) hvl).trans HVc.out.2.1
                have u0 : IntKind.i64.wrap (oy : Int) = (oy : Int) := IntWalk.i64_in _ (by omega)
                have u1 : IntKind.i64.wrap (262144 * (oy : Int)) = 262144 * (oy : Int) := IntWalk.i64_in _ (by omega)
                have u2 : IntKind.i64.wrap (p1 + 262144 * (oy : Int)) = p1 + 262144 * (oy : Int) := IntWalk.i64_in _ (by omega)
                have u3 := HT.out.2.1
                have hput := HO.out.1.putZ hlk1 (m := 1) (by omega) (p1 + 262144 * (oy : Int))
                rw [List.set_set] at hput
                have HN := hide (And.intro hput (And.intro (HO.out.2.1.off (o := k * 9 + 1) hgs4 (.int .i64 (p1 + 262144 * (oy : Int)))) (HO.out.2.2.setCell (p := ⟨gs, k * 9 + 1, none⟩) hgsV (.int .i64 (p1 + 262144 * (oy : Int))))))
                have HPp1 := hide hp1
                clear hput HO hlk1 hp1
                go_still_tail 17, (by kernel_rfl)
                change wpList _ _ _ _ _ Y0.drew
                go_upto_region 23 with fail
                obtain ⟨Y1, hY1⟩ : ∃ Y, Y = (Y0.setCell ⟨gs, k * 9 + 1, none⟩ (.int .i64 (p1 + 262144 * (oy : Int)))).drew := ⟨_, rfl⟩
                rw [← hY1]
                have HO : Hid (Own encT 9 40 Y1 V.heap.size (.slice (some ⟨gs, 0, none⟩) M cs) M (L.set k (putZ (putZ (shJ v t0 0) 0 (p0 + 262144 * (ox : Int))) 1 (p1 + 262144 * (oy : Int)))) ∧ Own encT 9 40 Y1 w4.heap.size (.slice At Md ct) Md D ∧ Below V.heap.size V Y1) := by
                  rw [hY1]; exact ⟨HN.out.1.drew, HN.out.2.1.drew, HN.out.2.2.drew⟩
                clear q0 q1 q2 vv u0 u1 u2 u3 HN hY1
                have hlk2 : (L.set k (putZ (putZ (shJ v t0 0) 0 (p0 + 262144 * (ox : Int))) 1 (p1 + 262144 * (oy : Int))))[k]? = some (putZ (putZ (shJ v t0 0) 0 (p0 + 262144 * (ox : Int))) 1 (p1 + 262144 * (oy : Int))) := List.getElem?_set_self hkL
                obtain ⟨qa, qb, q2⟩ := HO.out.1.atZ hlk2 (m := 2) (by omega)
                obtain ⟨p2, hp2⟩ : ∃ p : Int, p = t0.1.2.2 := ⟨_, rfl⟩
                have q0 : Y1.cell? ⟨gs, k * 9 + 2, none⟩ = some (.int .i64 p2) := by rw [hp2]; exact qa
                have q1 : Y1.frozen? ⟨gs, k * 9 + 2, none⟩ = false := qb
                clear qa qb
                have r2 := HS.out.2.2.2.2.2.1.2.2
                rw [← hp2] at r2
                have vv : Y1.cell? ⟨w.heap.size, 2, none⟩ = some (.int .u8 z1) := (HO.out.2.2.cell (p := ⟨w.heap.size, 2, none⟩) hvl).trans HVc.out.2.2
                have u0 : IntKind.i64.wrap (oz : Int) = (oz : Int) := IntWalk.i64_in _ (by omega)
                have u1 : IntKind.i64.wrap (262144 * (oz : Int)) = 262144 * (oz : Int) := IntWalk.i64_in _ (by omega)
                have u2 : IntKind.i64.wrap (p2 + 262144 * (oz : Int)) = p2 + 262144 * (oz : Int) := IntWalk.i64_in _ (by omega)
                have u3 := HT.out.2.2
                have hput := HO.out.1.putZ hlk2 (m := 2) (by omega) (p2 + 262144 * (oz : Int))
                rw [List.set_set] at hput
                have HN := hide (And.intro hput (And.intro (HO.out.2.1.off (o := k * 9 + 2) hgs4 (.int .i64 (p2 + 262144 * (oz : Int)))) (HO.out.2.2.setCell (p := ⟨gs, k * 9 + 2, none⟩) hgsV (.int .i64 (p2 + 262144 * (oz : Int))))))
                have HPp2 := hide hp2
                clear hput HO hlk2 hp2
                go_still_tail 17, (by kernel_rfl)
                change wpList _ _ _ _ _ Y1.drew
                have hend : putZ (putZ (putZ (shJ v t0 0) 0 (p0 + 262144 * (ox : Int))) 1 (p1 + 262144 * (oy : Int))) 2 (p2 + 262144 * (oz : Int)) = shJ v t0 (0 + 1) := by
                  rw [HPp0.out, HPp1.out, HPp2.out, HV.out]
                  exact shJ_0 (262144 * (ox : Int), 262144 * (oy : Int), 262144 * (oz : Int)) t0
                have HN2 : Hid (Own encT 9 40 (Y1.setCell ⟨gs, k * 9 + 2, none⟩ (.int .i64 (p2 + 262144 * (oz : Int)))) V.heap.size (.slice (some ⟨gs, 0, none⟩) M cs) M (L.set k (shJ v t0 (0 + 1)))) := by
                  rw [← hend]; exact HN.out.1
                clear vv u0 u1 u2 u3 hend
                clear r0 r1 r2
                go_wp2
                go_roundw
                case rel => exact ⟨0 + 1, by omega, by go_num, HN2.out.drew, HN.out.2.1.drew, HN.out.2.2.drew⟩
                case measure => simp [intOf]
              · have HO := hide (And.intro hown (And.intro hownt hB))
                clear hown hownt hB
                have hlk0 : (L.set k (shJ v t0 1))[k]? = some (shJ v t0 1) := List.getElem?_set_self hkL
                obtain ⟨qa, qb, q2⟩ := HO.out.1.atZ hlk0 (m := 3) (by omega)
                obtain ⟨p0, hp0⟩ : ∃ p : Int, p = t0.2.1.1 := ⟨_, rfl⟩
                have q0 : wr.cell? ⟨gs, k * 9 + 3, none⟩ = some (.int .i64 p0) := by rw [hp0]; exact qa
                have q1 : wr.frozen? ⟨gs, k * 9 + 3, none⟩ = false := qb
                clear qa qb
                have r0 := HS.out.2.2.2.2.2.2.1.1
                rw [← hp0] at r0
                have vv : wr.cell? ⟨w.heap.size, 0, none⟩ = some (.int .u8 x1) := (HO.out.2.2.cell (p := ⟨w.heap.size, 0, none⟩) hvl).trans HVc.out.1
                have u0 : IntKind.i64.wrap (ox : Int) = (ox : Int) := IntWalk.i64_in _ (by omega)
                have u1 : IntKind.i64.wrap (262144 * (ox : Int)) = 262144 * (ox : Int) := IntWalk.i64_in _ (by omega)
                have u2 : IntKind.i64.wrap (p0 + 262144 * (ox : Int)) = p0 + 262144 * (ox : Int) := IntWalk.i64_in _ (by omega)
                have u3 := HT.out.1
                have hput := HO.out.1.putZ hlk0 (m := 3) (by omega) (p0 + 262144 * (ox : Int))
                rw [List.set_set] at hput
                have HN := hide (And.intro hput (And.intro (HO.out.2.1.off (o := k * 9 + 3) hgs4 (.int .i64 (p0 + 262144 * (ox : Int)))) (HO.out.2.2.setCell (p := ⟨gs, k * 9 + 3, none⟩) hgsV (.int .i64 (p0 + 262144 * (ox : Int))))))
                have HPp0 := hide hp0
                clear hput HO hlk0 hp0
                go_upto_region 21 with fail
                go_still_tail 17, (by kernel_rfl)
                change wpList _ _ _ _ _ wr.drew
                go_upto_region 22 with fail
                obtain ⟨Y0, hY0⟩ : ∃ Y, Y = (wr.setCell ⟨gs, k * 9 + 3, none⟩ (.int .i64 (p0 + 262144 * (ox : Int)))).drew := ⟨_, rfl⟩
                rw [← hY0]
                have HO : Hid (Own encT 9 40 Y0 V.heap.size (.slice (some ⟨gs, 0, none⟩) M cs) M (L.set k (putZ (shJ v t0 1) 3 (p0 + 262144 * (ox : Int)))) ∧ Own encT 9 40 Y0 w4.heap.size (.slice At Md ct) Md D ∧ Below V.heap.size V Y0) := by
                  rw [hY0]; exact ⟨HN.out.1.drew, HN.out.2.1.drew, HN.out.2.2.drew⟩
                clear q0 q1 q2 vv u0 u1 u2 u3 HN hY0
                have hlk1 : (L.set k (putZ (shJ v t0 1) 3 (p0 + 262144 * (ox : Int))))[k]? = some (putZ (shJ v t0 1) 3 (p0 + 262144 * (ox : Int))) := List.getElem?_set_self hkL
                obtain ⟨qa, qb, q2⟩ := HO.out.1.atZ hlk1 (m := 4) (by omega)
                obtain ⟨p1, hp1⟩ : ∃ p : Int, p = t0.2.1.2.1 := ⟨_, rfl⟩
                have q0 : Y0.cell? ⟨gs, k * 9 + 4, none⟩ = some (.int .i64 p1) := by rw [hp1]; exact qa
                have q1 : Y0.frozen? ⟨gs, k * 9 + 4, none⟩ = false := qb
                clear qa qb
                have r1 := HS.out.2.2.2.2.2.2.1.2.1
                rw [← hp1] at r1
                have vv : Y0.cell? ⟨w.heap.size, 1, none⟩ = some (.int .u8 y1) := (HO.out.2.2.cell (p := ⟨w.heap.size, 1, none⟩) hvl).trans HVc.out.2.1
                have u0 : IntKind.i64.wrap (oy : Int) = (oy : Int) := IntWalk.i64_in _ (by omega)
                have u1 : IntKind.i64.wrap (262144 * (oy : Int)) = 262144 * (oy : Int) := IntWalk.i64_in _ (by omega)
                have u2 : IntKind.i64.wrap (p1 + 262144 * (oy : Int)) = p1 + 262144 * (oy : Int) := IntWalk.i64_in _ (by omega)
                have u3 := HT.out.2.1
                have hput := HO.out.1.putZ hlk1 (m := 4) (by omega) (p1 + 262144 * (oy : Int))
                rw [List.set_set] at hput
                have HN := hide (And.intro hput (And.intro (HO.out.2.1.off (o := k * 9 + 4) hgs4 (.int .i64 (p1 + 262144 * (oy : Int)))) (HO.out.2.2.setCell (p := ⟨gs, k * 9 + 4, none⟩) hgsV (.int .i64 (p1 + 262144 * (oy : Int))))))
                have HPp1 := hide hp1
                clear hput HO hlk1 hp1
                go_still_tail 17, (by kernel_rfl)
                change wpList _ _ _ _ _ Y0.drew
                go_upto_region 23 with fail
                obtain ⟨Y1, hY1⟩ : ∃ Y, Y = (Y0.setCell ⟨gs, k * 9 + 4, none⟩ (.int .i64 (p1 + 262144 * (oy : Int)))).drew := ⟨_, rfl⟩
                rw [← hY1]
                have HO : Hid (Own encT 9 40 Y1 V.heap.size (.slice (some ⟨gs, 0, none⟩) M cs) M (L.set k (putZ (putZ (shJ v t0 1) 3 (p0 + 262144 * (ox : Int))) 4 (p1 + 262144 * (oy : Int)))) ∧ Own encT 9 40 Y1 w4.heap.size (.slice At Md ct) Md D ∧ Below V.heap.size V Y1) := by
                  rw [hY1]; exact ⟨HN.out.1.drew, HN.out.2.1.drew, HN.out.2.2.drew⟩
                clear q0 q1 q2 vv u0 u1 u2 u3 HN hY1
                have hlk2 : (L.set k (putZ (putZ (shJ v t0 1) 3 (p0 + 262144 * (ox : Int))) 4 (p1 + 262144 * (oy : Int))))[k]? = some (putZ (putZ (shJ v t0 1) 3 (p0 + 262144 * (ox : Int))) 4 (p1 + 262144 * (oy : Int))) := List.getElem?_set_self hkL
                obtain ⟨qa, qb, q2⟩ := HO.out.1.atZ hlk2 (m := 5) (by omega)
                obtain ⟨p2, hp2⟩ : ∃ p : Int, p = t0.2.1.2.2 := ⟨_, rfl⟩
                have q0 : Y1.cell? ⟨gs, k * 9 + 5, none⟩ = some (.int .i64 p2) := by rw [hp2]; exact qa
                have q1 : Y1.frozen? ⟨gs, k * 9 + 5, none⟩ = false := qb
                clear qa qb
                have r2 := HS.out.2.2.2.2.2.2.1.2.2
                rw [← hp2] at r2
                have vv : Y1.cell? ⟨w.heap.size, 2, none⟩ = some (.int .u8 z1) := (HO.out.2.2.cell (p := ⟨w.heap.size, 2, none⟩) hvl).trans HVc.out.2.2
                have u0 : IntKind.i64.wrap (oz : Int) = (oz : Int) := IntWalk.i64_in _ (by omega)
                have u1 : IntKind.i64.wrap (262144 * (oz : Int)) = 262144 * (oz : Int) := IntWalk.i64_in _ (by omega)
                have u2 : IntKind.i64.wrap (p2 + 262144 * (oz : Int)) = p2 + 262144 * (oz : Int) := IntWalk.i64_in _ (by omega)
                have u3 := HT.out.2.2
                have hput := HO.out.1.putZ hlk2 (m := 5) (by omega) (p2 + 262144 * (oz : Int))
                rw [List.set_set] at hput
                have HN := hide (And.intro hput (And.intro (HO.out.2.1.off (o := k * 9 + 5) hgs4 (.int .i64 (p2 + 262144 * (oz : Int)))) (HO.out.2.2.setCell (p := ⟨gs, k * 9 + 5, none⟩) hgsV (.int .i64 (p2 + 262144 * (oz : Int))))))
                have HPp2 := hide hp2
                clear hput HO hlk2 hp2
                go_still_tail 17, (by kernel_rfl)
                change wpList _ _ _ _ _ Y1.drew
                have hend : putZ (putZ (putZ (shJ v t0 1) 3 (p0 + 262144 * (ox : Int))) 4 (p1 + 262144 * (oy : Int))) 5 (p2 + 262144 * (oz : Int)) = shJ v t0 (1 + 1) := by
                  rw [HPp0.out, HPp1.out, HPp2.out, HV.out]
                  exact shJ_1 (262144 * (ox : Int), 262144 * (oy : Int), 262144 * (oz : Int)) t0
                have HN2 : Hid (Own encT 9 40 (Y1.setCell ⟨gs, k * 9 + 5, none⟩ (.int .i64 (p2 + 262144 * (oz : Int)))) V.heap.size (.slice (some ⟨gs, 0, none⟩) M cs) M (L.set k (shJ v t0 (1 + 1)))) := by
                  rw [← hend]; exact HN.out.1
                clear vv u0 u1 u2 u3 hend
                clear r0 r1 r2
                go_wp2
                go_roundw
                case rel => exact ⟨1 + 1, by omega, by go_num, HN2.out.drew, HN.out.2.1.drew, HN.out.2.2.drew⟩
                case measure => simp [intOf]
              · have HO := hide (And.intro hown (And.intro hownt hB))
                clear hown hownt hB
                have hlk0 : (L.set k (shJ v t0 2))[k]? = some (shJ v t0 2) := List.getElem?_set_self hkL
                obtain ⟨qa, qb, q2⟩ := HO.out.1.atZ hlk0 (m := 6) (by omega)
                obtain ⟨p0, hp0⟩ : ∃ p : Int, p = t0.2.2.1 := ⟨_, rfl⟩
                have q0 : wr.cell? ⟨gs, k * 9 + 6, none⟩ = some (.int .i64 p0) := by rw [hp0]; exact qa
                have q1 : wr.frozen? ⟨gs, k * 9 + 6, none⟩ = false := qb
                clear qa qb
                have r0 := HS.out.2.2.2.2.2.2.2.1
                rw [← hp0] at r0
                have vv : wr.cell? ⟨w.heap.size, 0, none⟩ = some (.int .u8 x1) := (HO.out.2.2.cell (p := ⟨w.heap.size, 0, none⟩) hvl).trans HVc.out.1
                have u0 : IntKind.i64.wrap (ox : Int) = (ox : Int) := IntWalk.i64_in _ (by omega)
                have u1 : IntKind.i64.wrap (262144 * (ox : Int)) = 262144 * (ox : Int) := IntWalk.i64_in _ (by omega)
                have u2 : IntKind.i64.wrap (p0 + 262144 * (ox : Int)) = p0 + 262144 * (ox : Int) := IntWalk.i64_in _ (by omega)
                have u3 := HT.out.1
                have hput := HO.out.1.putZ hlk0 (m := 6) (by omega) (p0 + 262144 * (ox : Int))
                rw [List.set_set] at hput
                have HN := hide (And.intro hput (And.intro (HO.out.2.1.off (o := k * 9 + 6) hgs4 (.int .i64 (p0 + 262144 * (ox : Int)))) (HO.out.2.2.setCell (p := ⟨gs, k * 9 + 6, none⟩) hgsV (.int .i64 (p0 + 262144 * (ox : Int))))))
                have HPp0 := hide hp0
                clear hput HO hlk0 hp0
                go_upto_region 21 with fail
                go_still_tail 17, (by kernel_rfl)
                change wpList _ _ _ _ _ wr.drew
                go_upto_region 22 with fail
                obtain ⟨Y0, hY0⟩ : ∃ Y, Y = (wr.setCell ⟨gs, k * 9 + 6, none⟩ (.int .i64 (p0 + 262144 * (ox : Int)))).drew := ⟨_, rfl⟩
                rw [← hY0]
                have HO : Hid (Own encT 9 40 Y0 V.heap.size (.slice (some ⟨gs, 0, none⟩) M cs) M (L.set k (putZ (shJ v t0 2) 6 (p0 + 262144 * (ox : Int)))) ∧ Own encT 9 40 Y0 w4.heap.size (.slice At Md ct) Md D ∧ Below V.heap.size V Y0) := by
                  rw [hY0]; exact ⟨HN.out.1.drew, HN.out.2.1.drew, HN.out.2.2.drew⟩
                clear q0 q1 q2 vv u0 u1 u2 u3 HN hY0
                have hlk1 : (L.set k (putZ (shJ v t0 2) 6 (p0 + 262144 * (ox : Int))))[k]? = some (putZ (shJ v t0 2) 6 (p0 + 262144 * (ox : Int))) := List.getElem?_set_self hkL
                obtain ⟨qa, qb, q2⟩ := HO.out.1.atZ hlk1 (m := 7) (by omega)
                obtain ⟨p1, hp1⟩ : ∃ p : Int, p = t0.2.2.2.1 := ⟨_, rfl⟩
                have q0 : Y0.cell? ⟨gs, k * 9 + 7, none⟩ = some (.int .i64 p1) := by rw [hp1]; exact qa
                have q1 : Y0.frozen? ⟨gs, k * 9 + 7, none⟩ = false := qb
                clear qa qb
                have r1 := HS.out.2.2.2.2.2.2.2.2.1
                rw [← hp1] at r1
                have vv : Y0.cell? ⟨w.heap.size, 1, none⟩ = some (.int .u8 y1) := (HO.out.2.2.cell (p := ⟨w.heap.size, 1, none⟩) hvl).trans HVc.out.2.1
                have u0 : IntKind.i64.wrap (oy : Int) = (oy : Int) := IntWalk.i64_in _ (by omega)
                have u1 : IntKind.i64.wrap (262144 * (oy : Int)) = 262144 * (oy : Int) := IntWalk.i64_in _ (by omega)
                have u2 : IntKind.i64.wrap (p1 + 262144 * (oy : Int)) = p1 + 262144 * (oy : Int) := IntWalk.i64_in _ (by omega)
                have u3 := HT.out.2.1
                have hput := HO.out.1.putZ hlk1 (m := 7) (by omega) (p1 + 262144 * (oy : Int))
                rw [List.set_set] at hput
                have HN := hide (And.intro hput (And.intro (HO.out.2.1.off (o := k * 9 + 7) hgs4 (.int .i64 (p1 + 262144 * (oy : Int)))) (HO.out.2.2.setCell (p := ⟨gs, k * 9 + 7, none⟩) hgsV (.int .i64 (p1 + 262144 * (oy : Int))))))
                have HPp1 := hide hp1
                clear hput HO hlk1 hp1
                go_still_tail 17, (by kernel_rfl)
                change wpList _ _ _ _ _ Y0.drew
                go_upto_region 23 with fail
                obtain ⟨Y1, hY1⟩ : ∃ Y, Y = (Y0.setCell ⟨gs, k * 9 + 7, none⟩ (.int .i64 (p1 + 262144 * (oy : Int)))).drew := ⟨_, rfl⟩
                rw [← hY1]
                have HO : Hid (Own encT 9 40 Y1 V.heap.size (.slice (some ⟨gs, 0, none⟩) M cs) M (L.set k (putZ (putZ (shJ v t0 2) 6 (p0 + 262144 * (ox : Int))) 7 (p1 + 262144 * (oy : Int)))) ∧ Own encT 9 40 Y1 w4.heap.size (.slice At Md ct) Md D ∧ Below V.heap.size V Y1) := by
                  rw [hY1]; exact ⟨HN.out.1.drew, HN.out.2.1.drew, HN.out.2.2.drew⟩
                clear q0 q1 q2 vv u0 u1 u2 u3 HN hY1
                have hlk2 : (L.set k (putZ (putZ (shJ v t0 2) 6 (p0 + 262144 * (ox : Int))) 7 (p1 + 262144 * (oy : Int))))[k]? = some (putZ (putZ (shJ v t0 2) 6 (p0 + 262144 * (ox : Int))) 7 (p1 + 262144 * (oy : Int))) := List.getElem?_set_self hkL
                obtain ⟨qa, qb, q2⟩ := HO.out.1.atZ hlk2 (m := 8) (by omega)
                obtain ⟨p2, hp2⟩ : ∃ p : Int, p = t0.2.2.2.2 := ⟨_, rfl⟩
                have q0 : Y1.cell? ⟨gs, k * 9 + 8, none⟩ = some (.int .i64 p2) := by rw [hp2]; exact qa
                have q1 : Y1.frozen? ⟨gs, k * 9 + 8, none⟩ = false := qb
                clear qa qb
                have r2 := HS.out.2.2.2.2.2.2.2.2.2
                rw [← hp2] at r2
                have vv : Y1.cell? ⟨w.heap.size, 2, none⟩ = some (.int .u8 z1) := (HO.out.2.2.cell (p := ⟨w.heap.size, 2, none⟩) hvl).trans HVc.out.2.2
                have u0 : IntKind.i64.wrap (oz : Int) = (oz : Int) := IntWalk.i64_in _ (by omega)
                have u1 : IntKind.i64.wrap (262144 * (oz : Int)) = 262144 * (oz : Int) := IntWalk.i64_in _ (by omega)
                have u2 : IntKind.i64.wrap (p2 + 262144 * (oz : Int)) = p2 + 262144 * (oz : Int) := IntWalk.i64_in _ (by omega)
                have u3 := HT.out.2.2
                have hput := HO.out.1.putZ hlk2 (m := 8) (by omega) (p2 + 262144 * (oz : Int))
                rw [List.set_set] at hput
                have HN := hide (And.intro hput (And.intro (HO.out.2.1.off (o := k * 9 + 8) hgs4 (.int .i64 (p2 + 262144 * (oz : Int)))) (HO.out.2.2.setCell (p := ⟨gs, k * 9 + 8, none⟩) hgsV (.int .i64 (p2 + 262144 * (oz : Int))))))
                have HPp2 := hide hp2
                clear hput HO hlk2 hp2
                go_still_tail 17, (by kernel_rfl)
                change wpList _ _ _ _ _ Y1.drew
                have hend : putZ (putZ (putZ (shJ v t0 2) 6 (p0 + 262144 * (ox : Int))) 7 (p1 + 262144 * (oy : Int))) 8 (p2 + 262144 * (oz : Int)) = shJ v t0 (2 + 1) := by
                  rw [HPp0.out, HPp1.out, HPp2.out, HV.out]
                  exact shJ_2 (262144 * (ox : Int), 262144 * (oy : Int), 262144 * (oz : Int)) t0
                have HN2 : Hid (Own encT 9 40 (Y1.setCell ⟨gs, k * 9 + 8, none⟩ (.int .i64 (p2 + 262144 * (oz : Int)))) V.heap.size (.slice (some ⟨gs, 0, none⟩) M cs) M (L.set k (shJ v t0 (2 + 1)))) := by
                  rw [← hend]; exact HN.out.1
                clear vv u0 u1 u2 u3 hend
                clear r0 r1 r2
                go_wp2
                go_roundw
                case rel => exact ⟨2 + 1, by omega, by go_num, HN2.out.drew, HN.out.2.1.drew, HN.out.2.2.drew⟩
                case measure => simp [intOf]
            · have hj3e : j = 3 := by omega
              subst hj3e
              have HE := hide (And.intro hown (And.intro hownt hB))
              clear hown hownt hB
              go_wp2
              go_roundw
              case rel => exact ⟨k + 1, by omega, by go_num, by rw [← HS.out.2.2.1]; exact HE.out.1, HE.out.2.1, HE.out.2.2⟩
              case measure => simp [intOf]; omega
        · have hkM : k = M := by omega
          have hmap : (C.take k).map (shT v) ++ C.drop k = C.map (shT v) := by
            rw [hkM, HL.out.1, List.take_length, List.drop_length, List.append_nil]
          rw [hmap] at hown
          have hml : (C.map (shT v)).length = M := by rw [List.length_map, HL.out.1]
          have hsame := same05_any As At cs ct (C.map (shT v)) D wr wr.heap.size wr.heap.size (hown.sl encT_len (Nat.le_refl _)) (hownt.sl encT_len (Nat.le_refl _)) (by rw [hml]; omega) (by rw [← HL.out.2.1]; omega) (fun t ht => by
            obtain ⟨u, hu, rfl⟩ := List.mem_map.1 ht
            exact sh_range (HL.out.2.2.1 u hu) HL.out.2.2.2.2.2.2) (fun t ht => (HL.out.2.2.2.1 t ht).fit)
          rw [hml, ← HL.out.2.1, decide_eq_true HL.out.2.2.2.2.1] at hsame
          have HSm := hide (And.intro hsame hB)
          clear hsame hown hownt hB hmap hml
          go_wp2_with fail
          refine HSm.out.1.mono ?_
          rintro e w6 ⟨rfl, nn, rfl⟩
          have hfin : Below w.heap.size w (wr.drewN nn) := below_drewN (HL.out.2.2.2.2.2.1.trans (HSm.out.2.mono HL.out.2.2.2.2.2.1.size)) nn
          have HFin := hide hfin
          clear hfin
          go_wp2
          go_ret
          exact ⟨rfl, HFin.out⟩
end Go.Proofs.Ytfljcgehhnmamaa
