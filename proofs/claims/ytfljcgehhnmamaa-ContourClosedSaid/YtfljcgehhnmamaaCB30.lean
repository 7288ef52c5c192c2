/- Joined texts: Sort Canon CanonW. -/
import Derived.Test.YtfljcgehhnmamaaCB6
import Derived.Test.YtfljcgehhnmamaaCB14
import Derived.Test.YtfljcgehhnmamaaCB20
import Derived.Test.YtfljcgehhnmamaaCB28
import Derived.Test.YtfljcgehhnmamaaCB29
/- The library's sort at triangles and at points, by its contract. -/
namespace Go.Proofs.Ytfljcgehhnmamaa
open Go.RowKit Go.Sort Go.Lib
def sortT (ts : List Tri) : List Tri := ts.mergeSort fun x y => !ltT y x
def sortP (ps : List Pt) : List Pt := ps.mergeSort fun x y => !ltP y x

section
variable {α : Type} [Inhabited α] {enc : α → List Value} {k : Nat}
/-- A row that holds d, read cell by cell. -/
theorem holdsK_cell (hk : ∀ x, (enc x).length = k) {w : World} {g o : Nat} {xs : List α} (h : HoldsK enc k w g o xs.toArray) :
    ∀ i x, xs[i]? = some x → ∀ j u, (enc x)[j]? = some u → w.cell? ⟨g, o + i * k + j, none⟩ = some u ∧ w.frozen? ⟨g, o + i * k + j, none⟩ = false := by
  intro i x hx j u hu
  have hi : i < xs.length := (List.getElem?_eq_some_iff.1 hx).1
  have hj : j < k := by rw [← hk x]; exact (List.getElem?_eq_some_iff.1 hu).1
  have hlt : i * k + j < xs.length * k := by
    have : (i + 1) * k ≤ xs.length * k := Nat.mul_le_mul_right k hi
    rw [Nat.add_mul, Nat.one_mul] at this
    omega
  have h1 := h (i * k + j) (by simpa using hlt)
  rw [get_flatK _ _ _ _ (by simpa using hlt)] at h1
  have e1 : (i * k + j) / k = i := by rw [Nat.mul_comm, Nat.mul_add_div (by omega), Nat.div_eq_of_lt hj, Nat.add_zero]
  have e2 : (i * k + j) % k = j := by rw [Nat.mul_comm, Nat.mul_add_mod, Nat.mod_eq_of_lt hj]
  have e3 : xs.toArray[i]! = x := by
    have := List.getElem?_eq_some_iff.1 hx
    obtain ⟨_, e⟩ := this
    simp [hi, e]
  have e4 : (enc x)[j]! = u := by
    obtain ⟨h', e⟩ := List.getElem?_eq_some_iff.1 hu
    rw [getElem!_pos (enc x) j h']; exact e
  rw [e1, e2, e3, e4, ← Nat.add_assoc] at h1
  exact h1
theorem Sl.of_holdsK (hk : ∀ x, (enc x).length = k) {w : World} {g o B : Nat} {xs : List α} (hg : g < B) (h : HoldsK enc k w g o xs.toArray) : Sl enc k w B (some ⟨g, o, none⟩) xs :=
  .inr ⟨g, o, rfl, hg, fun i x hx j u hu => (holdsK_cell hk h i x hx j u hu).1⟩
theorem sortWorldK_grownBy {w : World} {g o n : Nat} {d : Array α} {os : Array Obj} : w.grownBy (sortWorldK enc k w g o n d os) (some g) := by
  refine ⟨rfl, rfl, rfl, by simp [sortWorldK, grow, putRowK], fun i hi hne => ?_⟩
  have hne' : i ≠ g := fun e => hne (by rw [e])
  unfold sortWorldK
  rw [heap_grow_old _ _ (by simpa [putRowK] using hi)]
  simp only [putRowK, putRow, mapBlock, heap_ahead, Array.getElem?_modify]
  rw [if_neg (Ne.symm hne')]
theorem sortWorldK_holds {w : World} {g o n : Nat} {d d' : Array α} {os : Array Obj} (hg : g < w.heap.size) (h : HoldsK enc k w g o d) (hs : d'.size = d.size) : HoldsK enc k (sortWorldK enc k w g o n d' os) g o d' := by
  unfold sortWorldK HoldsK
  refine holds_grow id _ os g o _ (by simpa [putRowK] using hg) ?_
  refine holds_putRow id _ g o (flatK enc k d) _ ?_ (by simp [hs])
  exact h
end

theorem sort_tri (g o cap : Nat) (ts : List Tri) (w : World) (hH : HoldsK encT 9 w g o ts.toArray) (hg : g < w.heap.size) (hn : ts.length < 4611686018427387904) :
    Calls Try.prog 46 #[.slice (some ⟨g, o, none⟩) ts.length cap, .func (.func 47) #[] #[]] w fun e w' =>
      e = .returned (.tuple #[]) ∧ w.grownBy w' (some g) ∧ HoldsK encT 9 w' g o (sortT ts).toArray := by
  have eg : ∀ args w, (callFunc 47 args).run Try.prog w = .ok (.enter 47 args) w := enters_of Try.func47 (by kernel_rfl) rfl
  have hO : SWO (ltOf cmpT) := by rw [ltOf_cmpT]; exact sto_T.swo
  have hT : ∀ x y, ltOf cmpT x y = false → ltOf cmpT y x = false → x = y := by rw [ltOf_cmpT]; exact sto_T.total
  have h := AnyQ.slices_SortFunc_total sortTriL 9 Try.isAgg40 Try.sizeOf40 encT encT_len encT_one cmpT hO 47 #[] g o cap ts.toArray w eg
    (fun _ _ _ _ x y => cmpTris_any x y _) hH hg (by simpa using hn) hT
  change Calls Try.prog 46 _ _ _ at h
  rw [ltOf_cmpT] at h
  refine h.mono ?_
  rintro e w' ⟨rfl, n, os, rfl⟩
  exact ⟨rfl, sortWorldK_grownBy, sortWorldK_holds hg hH (by simp)⟩
end Go.Proofs.Ytfljcgehhnmamaa
/- mesh.Canon: the canonical form. -/
namespace Go.Proofs.Ytfljcgehhnmamaa
open Go.RowKit Go.Sort
def canonT (ts : List Tri) : List Tri := sortT (ts.map rotT)
theorem map_take_snoc {α β : Type} (f : α → β) (xs : List α) (k : Nat) (x : α) (h : xs[k]? = some x) : (xs.take (k + 1)).map f = (xs.take k).map f ++ [f x] := by
  rw [List.take_add_one, h]
  simp
theorem sort_tri_none (p : Option Addr) (c : Nat) (w : World) : Calls Try.prog 46 #[.slice p 0 c, .func (.func 47) #[] #[]] w fun e w' => e = .returned (.tuple #[]) ∧ w = w' := by
  have h := AnyF.slices_SortFunc_none sortTriL p c (.func (.func 47) #[] #[]) w
  exact h.mono fun e w' h => ⟨h.1, h.2.symm⟩
set_option maxHeartbeats 2000000 in
set_option maxRecDepth 100000 in
theorem canon_any (A : Option Addr) (c : Nat) (ts : List Tri) (w : World) (hs : Sl encT 9 w w.heap.size A ts) (hl : ts.length ≤ 4294967296) :
    Calls Try.prog 29 #[.slice A ts.length c] w fun e w' => ∃ A' c', e = .returned (.slice A' ts.length c') ∧ Below w.heap.size w w' ∧ Sl encT 9 w' w'.heap.size A' (canonT ts) ∧ ts.length ≤ c' ∧ (ts = [] ∧ A' = none ∨ ∃ g, A' = some ⟨g, 0, none⟩ ∧ w.heap.size ≤ g ∧ g < w'.heap.size) := by
  go_enter Try.func29, Try.ntmps29
  go_wp2
  go_loopw [8, 3] (fun i v wr => ∃ k : Nat, k ≤ ts.length ∧ i = .int .i64 k ∧ Own encT 9 40 wr w.heap.size v k ((ts.take k).map rotT) ∧ Below w.heap.size w wr) (fun i _ _ => ts.length - (intOf i).toNat)
  case atStart => exact ⟨0, by omega, rfl, Own.nil, Below.refl _ _⟩
  case round =>
    obtain ⟨k, hk, rfl, hown, hB⟩ := hrel
    obtain ⟨A1, c1, rfl⟩ := hown.form
    have hsz := hB.size
    by_cases hlt : k < ts.length
    · obtain ⟨u, hu⟩ : ∃ u, ts[k]? = some u := ⟨_, List.getElem?_eq_getElem hlt⟩
      obtain ⟨b, o, hA, hb, g0, g1, g2, g3, g4, g5, g6, g7, g8⟩ := (hs.below hB).tri hu
      subst hA
      have HU := hide hu
      have HS := hide hs
      have HOwn := hide hown
      clear hu hs hown
      go_wp2_with fail
      refine (rotate_any u _).mono ?_
      rintro e w1 ⟨rfl, hL1⟩
      have hL : Lay wr w1 := ((Lay.refl _).alloc _).trans hL1
      have hB1 := hL.below
      have hown1 := HOwn.out.below hB1 (Nat.le_refl _)
      have hz1 := hB1.size
      have HL := hide (hB.trans (hB1.mono hsz))
      clear hL hB1 hL1 g0 g1 g2 g3 g4 g5 g6 g7 g8
      go_wp2_with (at_builtin; refine wpList_append1 rfl _ _ _ rfl Try.underlying29 infoT rfl (by omega) encT_len encT_one rfl (hown1.alloc _) w1.heap.size 1 (rotT u) rfl (Blk.new _ _ _) (by unfold maxLen; omega) (by omega) (by simp; omega) ?_; intro g cap w2 hown2 hg2 hB2 hat2 hgb2 hlt2)
      go_roundw
      case rel => exact ⟨k + 1, by omega, by go_num, by rw [map_take_snoc _ _ _ _ HU.out]; exact hown2, (HL.out.alloc (by omega) _).trans hB2⟩
      case measure => simp [intOf]; omega
    · have hk : k = ts.length := by omega
      subst hk
      rw [List.take_length] at hown
      by_cases hne : ts = []
      · subst hne
        have HO := hide hown
        clear hs hown
        go_wp2_with (go_at_call 46; refine (sort_tri_none _ _ _).mono ?_; rintro e w1 ⟨rfl, rfl⟩)
        go_ret
        refine ⟨A1, ⟨c1, rfl⟩, hB, ?_, (HO.out.place.2).imp (fun h => h.2) id⟩
        rw [show canonT [] = [] by simp [canonT, sortT]]
        exact HO.out.sl encT_len (Nat.le_refl _)
      · have hne' : ts.map rotT ≠ [] := by simpa using hne
        have hcap := hown.place.1
        obtain ⟨g, cap, hv, hbg, hlt⟩ := hown.at hne'
        injection hv with e1 _ e3
        subst e1 e3
        have hH := hown.holdsK encT_len
        have hcon := sort_tri g 0 c1 (ts.map rotT) wr hH hlt (by simp; omega)
        rw [List.length_map] at hcon
        have HC := hide hcon
        clear hs hown hH hcon hne hne'
        go_wp2_with (go_at_call 46; refine (unhide HC).mono ?_; rintro e w1 ⟨rfl, hg1, hH1⟩)
        go_ret
        have hsz1 := hg1.size
        exact ⟨_, c1, rfl, hB.grown hg1 hsz (fun r hr => by injection hr with hr; omega), Sl.of_holdsK encT_len (by omega) hH1, hcap, .inr ⟨g, rfl, hbg, by omega⟩⟩
end Go.Proofs.Ytfljcgehhnmamaa
/- mesh.Canon, with what it returns a slice of the call's own. -/
namespace Go.Proofs.Ytfljcgehhnmamaa
open Go.RowKit Go.Sort
section
variable {α : Type} [Inhabited α] {enc : α → List Value} {k : Nat}
theorem Own.of_holdsK (hk : ∀ x, (enc x).length = k) {w : World} {base g cap n : Nat} {e : TypeId} {cur : Array Value} {xs : List α} (hb : base ≤ g) (hg : w.heap[g]? = some (.cells cur e (0, 0))) (hc : n ≤ cap) (hm : cap ≤ maxLen) (hs : cur.size = cap * k) (hn : n = xs.length)
    (hH : HoldsK enc k w g 0 xs.toArray) : Own enc k e w base (.slice (some ⟨g, 0, none⟩) n cap) n xs := by
  refine ⟨hn, by rw [flat_len hk, hn], .inr ⟨g, cap, cur, rfl, hb, hg, hc, hm, hs, ?_⟩⟩
  have hle : n * k ≤ cur.size := by rw [hs]; exact Nat.mul_le_mul_right k hc
  refine List.ext_getElem? fun i => ?_
  rcases Nat.lt_or_ge i (n * k) with hi | hi
  · rw [List.getElem?_take, if_pos hi]
    have hk0 : 0 < k := by rcases Nat.eq_zero_or_pos k with h0 | h0; · subst h0; simp at hi
                           · exact h0
    have hq : i / k < xs.length := by rw [← hn]; exact (Nat.div_lt_iff_lt_mul hk0).2 hi
    have hj : i % k < k := Nat.mod_lt _ hk0
    have hx : xs[i / k]? = some xs[i / k] := List.getElem?_eq_getElem hq
    have hu : (enc xs[i / k])[i % k]? = some ((enc xs[i / k])[i % k]'(by rw [hk]; exact hj)) := List.getElem?_eq_getElem _
    have h1 := (holdsK_cell hk hH _ _ hx _ _ hu).1
    have h2 := flat_get hk xs _ _ hx _ _ hu
    have et : i / k * k + i % k = i := Nat.div_add_mod' i k
    rw [et] at h2
    rw [show 0 + i / k * k + i % k = i by omega, cell_of_row w g i cur e (0, 0) hg] at h1
    rw [h2, ← h1]
    simp
  · rw [List.getElem?_eq_none (by simp; omega), List.getElem?_eq_none (by rw [flat_len hk, ← hn]; exact hi)]
end
theorem sort_tri_own (g cap n base : Nat) (ts : List Tri) (w : World) (hO : Own encT 9 40 w base (.slice (some ⟨g, 0, none⟩) n cap) n ts) (hn : ts.length < 4611686018427387904) :
    Calls Try.prog 46 #[.slice (some ⟨g, 0, none⟩) n cap, .func (.func 47) #[] #[]] w fun e w' =>
      e = .returned (.tuple #[]) ∧ w.grownBy w' (some g) ∧ Own encT 9 40 w' base (.slice (some ⟨g, 0, none⟩) n cap) n (sortT ts) := by
  have hH := hO.holdsK encT_len
  have hlen := hO.1
  rcases hO.2.2 with ⟨h0, _⟩ | ⟨g', cap', cur, hv, hbg, hg, hc, hm, hs, _⟩
  · cases h0
  injection hv with hv _ hcc
  injection hv with hv
  injection hv with hv
  subst hv
  subst hcc
  have hlt : g < w.heap.size := (Array.getElem?_eq_some_iff.1 hg).1
  have eg : ∀ args w, (callFunc 47 args).run Try.prog w = .ok (.enter 47 args) w := enters_of Try.func47 (by kernel_rfl) rfl
  have hO : SWO (ltOf cmpT) := by rw [ltOf_cmpT]; exact sto_T.swo
  have hT : ∀ x y, ltOf cmpT x y = false → ltOf cmpT y x = false → x = y := by rw [ltOf_cmpT]; exact sto_T.total
  have h := AnyQ.slices_SortFunc_total sortTriL 9 Try.isAgg40 Try.sizeOf40 encT encT_len encT_one cmpT hO 47 #[] g 0 cap ts.toArray w eg
    (fun _ _ _ _ x y => cmpTris_any x y _) hH hlt (by simpa using hn) hT
  change Calls Try.prog 46 _ _ _ at h
  rw [ltOf_cmpT] at h
  rw [show ts.toArray.size = n by simp [hlen]] at h
  refine h.mono ?_
  rintro e w' ⟨rfl, m, os, rfl⟩
  refine ⟨rfl, sortWorldK_grownBy, ?_⟩
  have hHs : HoldsK encT 9 (sortWorldK encT 9 w g 0 m (sortT ts).toArray os) g 0 (sortT ts).toArray := sortWorldK_holds hlt hH (by simp [sortT])
  have hgs : ∃ cur', (sortWorldK encT 9 w g 0 m (sortT ts).toArray os).heap[g]? = some (.cells cur' 40 (0, 0)) ∧ cur'.size = cur.size := by
    unfold sortWorldK
    rw [heap_grow_old _ _ (by simpa [putRowK] using hlt)]
    simp only [putRowK, putRow, mapBlock, heap_ahead, Array.getElem?_modify, hg, if_true, Option.map_some]
    exact ⟨_, rfl, by simp [putCells]⟩
  obtain ⟨cur', hg', hsz⟩ := hgs
  exact Own.of_holdsK encT_len hbg hg' hc hm (by rw [hsz, hs]) (by rw [hlen]; simp [sortT]) hHs
set_option maxHeartbeats 2000000 in
set_option maxRecDepth 100000 in
theorem canon_own (A : Option Addr) (c : Nat) (ts : List Tri) (w : World) (hs : Sl encT 9 w w.heap.size A ts) (hl : ts.length ≤ 4294967296) :
    Calls Try.prog 29 #[.slice A ts.length c] w fun e w' => ∃ v, e = .returned v ∧ Own encT 9 40 w' w.heap.size v ts.length (canonT ts) ∧ Below w.heap.size w w' := by
  go_enter Try.func29, Try.ntmps29
  go_wp2
  go_loopw [8, 3] (fun i v wr => ∃ k : Nat, k ≤ ts.length ∧ i = .int .i64 k ∧ Own encT 9 40 wr w.heap.size v k ((ts.take k).map rotT) ∧ Below w.heap.size w wr) (fun i _ _ => ts.length - (intOf i).toNat)
  case atStart => exact ⟨0, by omega, rfl, Own.nil, Below.refl _ _⟩
  case round =>
    obtain ⟨k, hk, rfl, hown, hB⟩ := hrel
    obtain ⟨A1, c1, rfl⟩ := hown.form
    have hsz := hB.size
    by_cases hlt : k < ts.length
    · obtain ⟨u, hu⟩ : ∃ u, ts[k]? = some u := ⟨_, List.getElem?_eq_getElem hlt⟩
      obtain ⟨b, o, hA, hb, g0, g1, g2, g3, g4, g5, g6, g7, g8⟩ := (hs.below hB).tri hu
      subst hA
      have HU := hide hu
      have HS := hide hs
      have HOwn := hide hown
      clear hu hs hown
      go_wp2_with fail
      refine (rotate_any u _).mono ?_
      rintro e w1 ⟨rfl, hL1⟩
      have hL : Lay wr w1 := ((Lay.refl _).alloc _).trans hL1
      have hB1 := hL.below
      have hown1 := HOwn.out.below hB1 (Nat.le_refl _)
      have hz1 := hB1.size
      have HL := hide (hB.trans (hB1.mono hsz))
      clear hL hB1 hL1 g0 g1 g2 g3 g4 g5 g6 g7 g8
      go_wp2_with (at_builtin; refine wpList_append1 rfl _ _ _ rfl Try.underlying29 infoT rfl (by omega) encT_len encT_one rfl (hown1.alloc _) w1.heap.size 1 (rotT u) rfl (Blk.new _ _ _) (by unfold maxLen; omega) (by omega) (by simp; omega) ?_; intro g cap w2 hown2 hg2 hB2 hat2 hgb2 hlt2)
      go_roundw
      case rel => exact ⟨k + 1, by omega, by go_num, by rw [map_take_snoc _ _ _ _ HU.out]; exact hown2, (HL.out.alloc (by omega) _).trans hB2⟩
      case measure => simp [intOf]; omega
    · have hk : k = ts.length := by omega
      subst hk
      rw [List.take_length] at hown
      by_cases hne : ts = []
      · subst hne
        have HO := hide hown
        clear hs hown
        go_wp2_with (go_at_call 46; refine (sort_tri_none _ _ _).mono ?_; rintro e w1 ⟨rfl, rfl⟩)
        go_ret
        refine ⟨_, rfl, ?_, hB⟩
        rw [show canonT [] = [] by simp [canonT, sortT]]
        exact HO.out
      · have hne' : ts.map rotT ≠ [] := by simpa using hne
        have hcap := hown.place.1
        obtain ⟨g, cap, hv, hbg, hlt⟩ := hown.at hne'
        injection hv with e1 _ e3
        subst e1 e3
        have hcon := sort_tri_own g c1 ts.length w.heap.size (ts.map rotT) wr hown (by simp; omega)
        have HC := hide hcon
        clear hs hown hcon hne hne'
        go_wp2_with (go_at_call 46; refine (unhide HC).mono ?_; rintro e w1 ⟨rfl, hg1, hH1⟩)
        go_ret
        exact ⟨_, rfl, hH1, hB.grown hg1 hsz (fun r hr => by injection hr with hr; omega)⟩
end Go.Proofs.Ytfljcgehhnmamaa
