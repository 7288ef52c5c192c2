/- Joined texts: Soup. -/
import Derived.Test.YtgndbpkgehjelaaCB4
import Derived.Test.YtgndbpkgehjelaaCB5
import Derived.Test.YtgndbpkgehjelaaCB12
/- law13.soup: triangles that numbers determine. -/
namespace Go.Proofs.Ytgndbpkgehjelaa
open Go.RowKit
def soupC (x : Int) : Int := modC x 128 - 64
def soupT (t : Tri) : Tri := ((soupC t.1.1, soupC t.1.2.1, soupC t.1.2.2), (soupC t.2.1.1, soupC t.2.1.2.1, soupC t.2.1.2.2), soupC t.2.2.1, soupC t.2.2.2.1, soupC t.2.2.2.2)
def soupL (ns : List Tri) : List Tri := (ns.take 40).map soupT
def soupA (t : Tri) (j : Nat) : Array Value := ((encT (soupT t)).take j ++ List.replicate (9 - j) (Value.int .i64 0)).toArray
theorem soupC_bound (x : Int) : -64 ≤ soupC x ∧ soupC x < 64 := by
  have := modC_bound x 128 (by omega)
  unfold soupC
  omega
theorem soup_get (t : Tri) (j : Nat) (hj : j < 9) : ∃ x : Int, (encT t)[j]? = some (.int .i64 x) ∧ (soupA t j).setIfInBounds j (.int .i64 (soupC x)) = soupA t (j + 1) := by
  have hc : j = 0 ∨ j = 1 ∨ j = 2 ∨ j = 3 ∨ j = 4 ∨ j = 5 ∨ j = 6 ∨ j = 7 ∨ j = 8 := by omega
  rcases hc with rfl | rfl | rfl | rfl | rfl | rfl | rfl | rfl | rfl <;> exact ⟨_, rfl, rfl⟩
theorem soupA_size (t : Tri) (j : Nat) (hj : j ≤ 9) : (soupA t j).size = 9 := by
  have : (encT (soupT t)).length = 9 := rfl
  simp [soupA, this]
  omega
theorem infoT9 : (Try.prog.info? 26).map (fun i => (i.zero, i.size, i.bytes)) = some (some (.agg #[.int .i64 0, .int .i64 0, .int .i64 0, .int .i64 0, .int .i64 0, .int .i64 0, .int .i64 0, .int .i64 0, .int .i64 0]), 9, 72) := by kernel_rfl
theorem encT_len9 (t : Tri) : (encT t).length = 9 := rfl
theorem encT_one9 (t : Tri) : ∀ u ∈ encT t, u.oneCell' = true := by
  intro u hu
  simp only [encT, List.mem_cons, List.not_mem_nil, or_false] at hu
  rcases hu with rfl | rfl | rfl | rfl | rfl | rfl | rfl | rfl | rfl <;> rfl
set_option maxRecDepth 100000 in
set_option maxHeartbeats 4000000 in
theorem soup_any (A : Option Addr) (c : Nat) (ns : List Tri) (w : World) (hs : ns ≠ [] → Sl encT 9 w w.heap.size A ns) (hl : ns.length ≤ 9223372036854775807) :
    Calls Try.prog 16 #[.slice A ns.length c] w fun e w' => ∃ u, e = .returned u ∧ Own encT 9 26 w' w.heap.size u (soupL ns).length (soupL ns) ∧ Below w.heap.size w w' := by
  go_enter Try.func16, Try.ntmps16
  go_wp2
  go_loopw [3, 4] (fun u i wr => ∃ k : Nat, k ≤ ns.length ∧ k ≤ 40 ∧ i = .int .i64 k ∧ Own encT 9 26 wr w.heap.size u k ((ns.take k).map soupT) ∧ Below w.heap.size w wr) (fun _ i _ => 40 - (intOf i).toNat)
  case atStart => exact ⟨0, Nat.zero_le _, by omega, rfl, Own.nil, Below.refl _ w⟩
  case round =>
    obtain ⟨k, hk, hk40, rfl, hown, hB⟩ := hrel
    obtain ⟨A1, c1, rfl⟩ := hown.form
    have hszB := hB.size
    by_cases hlt : k < ns.length
    · by_cases hlt4 : k < 40
      · obtain ⟨t, ht⟩ : ∃ t, ns[k]? = some t := ⟨_, List.getElem?_eq_getElem hlt⟩
        obtain ⟨b, o, hA, hb, hcs⟩ := ((hs (fun e => by rw [e] at ht; simp at ht)).below hB).at ht
        subst hA
        have H := hide (And.intro hs (And.intro hown (And.intro hB (And.intro ht hcs))))
        clear hs hown hB ht hcs
        have hd4 : ((k : Int) < 40) = True := by simp; omega
        go_wp2
        obtain ⟨V, hV⟩ : ∃ V, V = wr := ⟨_, rfl⟩
        obtain ⟨X, hX⟩ : ∃ X, X = V.alloc (.cells (soupA t 0) 61) := ⟨_, rfl⟩
        rw [← hV] at H hszB ⊢
        have hX0 : X = V.alloc (.cells #[.int .i64 0, .int .i64 0, .int .i64 0, .int .i64 0, .int .i64 0, .int .i64 0, .int .i64 0, .int .i64 0, .int .i64 0] 61) := hX
        rw [← hX0]
        have hbX : Blk X V.heap.size 61 (soupA t 0) := by rw [hX]; exact Blk.new _ _ _
        have hBX : Below V.heap.size V X := by rw [hX]; exact (Below.refl _ V).alloc (Nat.le_refl _) _
        have HX := hide (And.intro hbX hBX)
        clear hX hX0 hV hbX hBX
        go_loopw [17] (fun i wr => ∃ j : Nat, j ≤ 9 ∧ i = .int .i64 j ∧ Blk wr V.heap.size 61 (soupA t j) ∧ Below V.heap.size V wr) (fun i _ => 9 - (intOf i).toNat)
        case atStart => exact ⟨0, by omega, rfl, HX.out.1, HX.out.2⟩
        case round =>
          obtain ⟨j, hj, rfl, hbt, hBt⟩ := hrel
          by_cases hlj : j < 9
          · obtain ⟨x, hx, hset⟩ := soup_get t j hlj
            have hcell : wr.cell? ⟨b, o + k * 9 + j, none⟩ = some (.int .i64 x) := (hBt.cell (p := ⟨b, _, none⟩) (by show b < _; omega)).trans (H.out.2.2.2.2 j _ hx)
            have hfr := hbt.frozen j
            have hsz9 := soupA_size t j (by omega)
            obtain ⟨y0, hy0⟩ : ∃ y, wr.cell? ⟨V.heap.size, j, none⟩ = some y := by
              rw [hbt.cell]; exact ⟨_, Array.getElem?_eq_getElem (by omega)⟩
            have HT := hide (And.intro hbt (And.intro hBt hset))
            clear hbt hBt hset hx hsz9
            go_wp2_with fail
            refine (mod_any x 128 (by omega) (by omega) _).mono ?_
            rintro e w2 ⟨rfl, rfl⟩
            go_wp2
            have hw : wrap64 (modC x 128 - 64) = soupC x := by
              have := soupC_bound x
              unfold soupC at this ⊢
              unfold wrap64; omega
            rw [hw]
            go_roundw
            case rel =>
              refine ⟨j + 1, by omega, by simp, ?_, HT.out.2.1.setCell (by simp) _⟩
              have := HT.out.1.set_ j (.int .i64 (soupC x))
              rw [HT.out.2.2] at this
              exact this
            case measure => simp [intOf]; omega
          · have hj9 : j = 9 := by omega
            subst hj9
            have g0 : wr.cell? ⟨V.heap.size, 0, none⟩ = some (.int .i64 (soupT t).1.1) := hbt.cell 0
            have g1 : wr.cell? ⟨V.heap.size, 1, none⟩ = some (.int .i64 (soupT t).1.2.1) := hbt.cell 1
            have g2 : wr.cell? ⟨V.heap.size, 2, none⟩ = some (.int .i64 (soupT t).1.2.2) := hbt.cell 2
            have g3 : wr.cell? ⟨V.heap.size, 3, none⟩ = some (.int .i64 (soupT t).2.1.1) := hbt.cell 3
            have g4 : wr.cell? ⟨V.heap.size, 4, none⟩ = some (.int .i64 (soupT t).2.1.2.1) := hbt.cell 4
            have g5 : wr.cell? ⟨V.heap.size, 5, none⟩ = some (.int .i64 (soupT t).2.1.2.2) := hbt.cell 5
            have g6 : wr.cell? ⟨V.heap.size, 6, none⟩ = some (.int .i64 (soupT t).2.2.1) := hbt.cell 6
            have g7 : wr.cell? ⟨V.heap.size, 7, none⟩ = some (.int .i64 (soupT t).2.2.2.1) := hbt.cell 7
            have g8 : wr.cell? ⟨V.heap.size, 8, none⟩ = some (.int .i64 (soupT t).2.2.2.2) := hbt.cell 8
            have hYB : Below V.heap.size V (wr.alloc (.cells #[.int .i64 (soupT t).1.1, .int .i64 (soupT t).1.2.1, .int .i64 (soupT t).1.2.2, .int .i64 (soupT t).2.1.1, .int .i64 (soupT t).2.1.2.1, .int .i64 (soupT t).2.1.2.2, .int .i64 (soupT t).2.2.1, .int .i64 (soupT t).2.2.2.1, .int .i64 (soupT t).2.2.2.2] 26)) := hBt.alloc hBt.size _
            have hYo := H.out.2.1.below hYB (Nat.le_refl _)
            have hszR := hBt.size
            have HT := hide (And.intro hBt hYB)
            clear hbt hBt hYB
            go_wp2_with (at_builtin; refine wpList_append1 rfl _ _ _ rfl Try.underlying27 infoT9 rfl (by omega) encT_len9 encT_one9 rfl hYo wr.heap.size 1 (soupT t) rfl (Blk.new _ _ _) (by unfold maxLen; omega) (by omega) (by simp; omega) ?_; intro g cap w5 hown5 hg5 hB5 hat5 hgb5 hlt5)
            go_roundw
            case rel => exact ⟨k + 1, by omega, by omega, by go_num, by rw [List.take_add_one, H.out.2.2.2.1]; simpa using hown5, (H.out.2.2.1.trans (HT.out.2.mono (by omega))).trans hB5⟩
            case measure => simp [intOf]; omega
      · have hk4 : k = 40 := by omega
        subst hk4
        have e : (ns.take 40).map soupT = soupL ns := rfl
        have el : 40 = (soupL ns).length := by simp [soupL]; omega
        rw [e] at hown
        have H := hide (And.intro hown (And.intro hB el))
        clear hown hB e el hs
        have hd4 : ((40 : Int) < 40) = False := by simp
        go_wp2
        go_ret
        refine ⟨_, rfl, ?_, H.out.2.1⟩
        have := H.out.1
        rw [← H.out.2.2]
        exact this
    · have hke : k = ns.length := by omega
      subst hke
      have e : (ns.take ns.length).map soupT = soupL ns := by
        rw [List.take_length, soupL, List.take_of_length_le hk40]
      have el : ns.length = (soupL ns).length := by rw [soupL, List.length_map, List.length_take]; omega
      rw [e] at hown
      have H := hide (And.intro hown (And.intro hB el))
      clear hown hB e el hs
      go_wp2
      go_ret
      refine ⟨_, rfl, ?_, H.out.2.1⟩
      have := H.out.1
      rw [← H.out.2.2]
      exact this
theorem soupL_length (ns : List Tri) : (soupL ns).length ≤ 40 := by simp [soupL]; omega
theorem soupL_bound (ns : List Tri) : ∀ t ∈ soupL ns, ∃ s, t = soupT s := by
  intro t ht
  obtain ⟨s, _, rfl⟩ := List.mem_map.1 ht
  exact ⟨s, rfl⟩
end Go.Proofs.Ytgndbpkgehjelaa
