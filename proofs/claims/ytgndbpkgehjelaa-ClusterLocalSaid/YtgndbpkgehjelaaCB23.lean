/- Joined texts: Sort SortP Canon Clone. -/
import Derived.Test.YtgndbpkgehjelaaCB5
import Derived.Test.YtgndbpkgehjelaaCB12
import Derived.Test.YtgndbpkgehjelaaCB17
import Derived.Test.YtgndbpkgehjelaaCB21
import Derived.Test.YtgndbpkgehjelaaCB22
/- The library's sort at triangles and at points, by its contract. -/
namespace Go.Proofs.Ytgndbpkgehjelaa
open Go.RowKit Go.Sort Go.Lib
def sortT (ts : List Tri) : List Tri := ts.mergeSort fun x y => !ltT y x
def sortP (ps : List Pt) : List Pt := ps.mergeSort fun x y => !ltP y x

section
variable {α : Type} [Inhabited α] {enc : α → List Value} {k : Nat}
/-- A row that holds d, read cell by cell. -/
theorem holdsK_cell (hk : ∀ x, (enc x).length = k) {w : World} {g o : Nat} {xs : List α} (h : HoldsK enc k w g o xs.toArray) :
    ∀ i x, xs[i]? = some x → ∀ j u, (enc x)[j]? = some u → w.cell? ⟨g, o + i * k + j, none⟩ = some u ∧ w.frozen? ⟨g, o + i * k + j, none⟩ = false := by
  intro i x hx j u hu
  have hi : i < xs.length := (List.getElem?_eq_some_iff.1 hx).1
  have hj : j < k := by rw [← hk x]; exact (List.getElem?_eq_some_iff.1 hu).1
  have hlt : i * k + j < xs.length * k := by
    have : (i + 1) * k ≤ xs.length * k := Nat.mul_le_mul_right k hi
    rw [Nat.add_mul, Nat.one_mul] at this
    omega
  have h1 := h (i * k + j) (by simpa using hlt)
  rw [get_flatK _ _ _ _ (by simpa using hlt)] at h1
  have e1 : (i * k + j) / k = i := by rw [Nat.mul_comm, Nat.mul_add_div (by omega), Nat.div_eq_of_lt hj, Nat.add_zero]
  have e2 : (i * k + j) % k = j := by rw [Nat.mul_comm, Nat.mul_add_mod, Nat.mod_eq_of_lt hj]
  have e3 : xs.toArray[i]! = x := by
    have := List.getElem?_eq_some_iff.1 hx
    obtain ⟨_, e⟩ := this
    simp [hi, e]
  have e4 : (enc x)[j]! = u := by
    obtain ⟨h', e⟩ := List.getElem?_eq_some_iff.1 hu
    rw [getElem!_pos (enc x) j h']; exact e
  rw [e1, e2, e3, e4, ← Nat.add_assoc] at h1
  exact h1
theorem Sl.of_holdsK (hk : ∀ x, (enc x).length = k) {w : World} {g o B : Nat} {xs : List α} (hg : g < B) (h : HoldsK enc k w g o xs.toArray) : Sl enc k w B (some ⟨g, o, none⟩) xs :=
  .inr ⟨g, o, rfl, hg, fun i x hx j u hu => (holdsK_cell hk h i x hx j u hu).1⟩
theorem sortWorldK_grownBy {w : World} {g o n : Nat} {d : Array α} {os : Array Obj} : w.grownBy (sortWorldK enc k w g o n d os) (some g) := by
  refine ⟨rfl, rfl, rfl, by simp [sortWorldK, grow, putRowK], fun i hi hne => ?_⟩
  have hne' : i ≠ g := fun e => hne (by rw [e])
  unfold sortWorldK
  rw [heap_grow_old _ _ (by simpa [putRowK] using hi)]
  simp only [putRowK, putRow, mapBlock, heap_ahead, Array.getElem?_modify]
  rw [if_neg (Ne.symm hne')]
theorem sortWorldK_holds {w : World} {g o n : Nat} {d d' : Array α} {os : Array Obj} (hg : g < w.heap.size) (h : HoldsK enc k w g o d) (hs : d'.size = d.size) : HoldsK enc k (sortWorldK enc k w g o n d' os) g o d' := by
  unfold sortWorldK HoldsK
  refine holds_grow id _ os g o _ (by simpa [putRowK] using hg) ?_
  refine holds_putRow id _ g o (flatK enc k d) _ ?_ (by simp [hs])
  exact h
end

theorem sort_tri (g o cap : Nat) (ts : List Tri) (w : World) (hH : HoldsK encT 9 w g o ts.toArray) (hg : g < w.heap.size) (hn : ts.length < 4611686018427387904) :
    Calls Try.prog 48 #[.slice (some ⟨g, o, none⟩) ts.length cap, .func (.func 49) #[] #[]] w fun e w' =>
      e = .returned (.tuple #[]) ∧ w.grownBy w' (some g) ∧ HoldsK encT 9 w' g o (sortT ts).toArray := by
  have eg : ∀ args w, (callFunc 49 args).run Try.prog w = .ok (.enter 49 args) w := enters_of Try.func49 (by kernel_rfl) rfl
  have hO : SWO (ltOf cmpT) := by rw [ltOf_cmpT]; exact sto_T.swo
  have hT : ∀ x y, ltOf cmpT x y = false → ltOf cmpT y x = false → x = y := by rw [ltOf_cmpT]; exact sto_T.total
  have h := AnyQ.slices_SortFunc_total sortTriL 9 Try.isAgg26 Try.sizeOf26 encT encT_len encT_one cmpT hO 49 #[] g o cap ts.toArray w eg
    (fun _ _ _ _ x y => cmpTris_any x y _) hH hg (by simpa using hn) hT
  change Calls Try.prog 48 _ _ _ at h
  rw [ltOf_cmpT] at h
  refine h.mono ?_
  rintro e w' ⟨rfl, n, os, rfl⟩
  exact ⟨rfl, sortWorldK_grownBy, sortWorldK_holds hg hH (by simp)⟩
end Go.Proofs.Ytgndbpkgehjelaa
/- The sort of points by the closure of gathered. -/
namespace Go.Proofs.Ytgndbpkgehjelaa
open Go.RowKit Go.Sort Go.Lib
def cmpG (a b : Pt) : Int := if ltP a b = true then -1 else 1
theorem ltOf_cmpG : ltOf cmpG = ltP := by
  funext a b
  unfold ltOf cmpG
  cases ltP a b <;> simp
theorem cmpG_any (a b : Pt) (w : World) : Calls Try.prog 52 #[vP a, vP b] w fun e w' => e = .returned (vi (cmpG a b)) ∧ Lay w w' := by
  go_enter Try.func52, Try.ntmps52
  cases h : ltP a b
  · go_wp2_with fail
    refine (less_any a b _).mono ?_
    rintro e w1 ⟨rfl, hL⟩
    have HL := hide (((Lay.refl w).alloc _).alloc _ |>.trans hL)
    clear hL
    go_wp2
    go_ret
    exact ⟨by simp [cmpG, h], HL.out⟩
  · go_wp2_with fail
    refine (less_any a b _).mono ?_
    rintro e w1 ⟨rfl, hL⟩
    have HL := hide (((Lay.refl w).alloc _).alloc _ |>.trans hL)
    clear hL
    go_wp2
    go_ret
    exact ⟨by simp [cmpG, h], HL.out⟩
theorem cmpGi_any (a b : Pt) (w : World) : Calls Try.prog 56 #[vP a, vP b] w fun e w' => e = .returned (vi (cmpG a b)) ∧ Lay w w' := by
  go_enter Try.func56, Try.ntmps56
  cases h : ltP a b
  · go_wp2_with fail
    refine (less_any a b _).mono ?_
    rintro e w1 ⟨rfl, hL⟩
    have HL := hide (((Lay.refl w).alloc _).alloc _ |>.trans hL)
    clear hL
    go_wp2
    go_ret
    exact ⟨by simp [cmpG, h], HL.out⟩
  · go_wp2_with fail
    refine (less_any a b _).mono ?_
    rintro e w1 ⟨rfl, hL⟩
    have HL := hide (((Lay.refl w).alloc _).alloc _ |>.trans hL)
    clear hL
    go_wp2
    go_ret
    exact ⟨by simp [cmpG, h], HL.out⟩
theorem sort_pt (F : Nat) (hF : F = 52 ∨ F = 56) (g o cap : Nat) (ts : List Pt) (w : World) (hH : HoldsK encP 3 w g o ts.toArray) (hg : g < w.heap.size) (hn : ts.length < 4611686018427387904) :
    Calls Try.prog 51 #[.slice (some ⟨g, o, none⟩) ts.length cap, .func (.func F) #[] #[]] w fun e w' =>
      e = .returned (.tuple #[]) ∧ w.grownBy w' (some g) ∧ HoldsK encP 3 w' g o (sortP ts).toArray := by
  have eg : ∀ args w, (callFunc F args).run Try.prog w = .ok (.enter F args) w := by
    rcases hF with rfl | rfl
    · exact enters_of Try.func52 (by kernel_rfl) rfl
    · exact enters_of Try.func56 (by kernel_rfl) rfl
  have hO : SWO (ltOf cmpG) := by rw [ltOf_cmpG]; exact sto_P.swo
  have hT : ∀ x y, ltOf cmpG x y = false → ltOf cmpG y x = false → x = y := by rw [ltOf_cmpG]; exact sto_P.total
  have hC : ∀ (x y : Pt) (w : World), Calls Try.prog F #[vP x, vP y] w fun e w' => e = .returned (vi (cmpG x y)) ∧ Lay w w' := by
    rcases hF with rfl | rfl
    · exact cmpG_any
    · exact cmpGi_any
  have h := AnyQ.slices_SortFunc_total sortPtL 3 Try.isAgg23 Try.sizeOf23 encP encP_len encP_one cmpG hO F #[] g o cap ts.toArray w eg
    (fun _ _ _ _ x y => hC x y _) hH hg (by simpa using hn) hT
  change Calls Try.prog 51 _ _ _ at h
  rw [ltOf_cmpG] at h
  refine h.mono ?_
  rintro e w' ⟨rfl, n, os, rfl⟩
  exact ⟨rfl, sortWorldK_grownBy, sortWorldK_holds hg hH (by simp)⟩
theorem sort_pt_none (F : Nat) (p : Option Addr) (c : Nat) (w : World) : Calls Try.prog 51 #[.slice p 0 c, .func (.func F) #[] #[]] w fun e w' => e = .returned (.tuple #[]) ∧ w = w' := by
  have h := AnyF.slices_SortFunc_none sortPtL p c (.func (.func F) #[] #[]) w
  exact h.mono fun e w' h => ⟨h.1, h.2.symm⟩
end Go.Proofs.Ytgndbpkgehjelaa
/- mesh.Canon: the canonical form. -/
namespace Go.Proofs.Ytgndbpkgehjelaa
open Go.RowKit Go.Sort
def canonT (ts : List Tri) : List Tri := sortT (ts.map rotT)
theorem map_take_snoc {α β : Type} (f : α → β) (xs : List α) (k : Nat) (x : α) (h : xs[k]? = some x) : (xs.take (k + 1)).map f = (xs.take k).map f ++ [f x] := by
  rw [List.take_add_one, h]
  simp
theorem sort_tri_none (p : Option Addr) (c : Nat) (w : World) : Calls Try.prog 48 #[.slice p 0 c, .func (.func 49) #[] #[]] w fun e w' => e = .returned (.tuple #[]) ∧ w = w' := by
  have h := AnyF.slices_SortFunc_none sortTriL p c (.func (.func 49) #[] #[]) w
  exact h.mono fun e w' h => ⟨h.1, h.2.symm⟩
set_option maxHeartbeats 2000000 in
set_option maxRecDepth 100000 in
theorem canon_any (A : Option Addr) (c : Nat) (ts : List Tri) (w : World) (hs : Sl encT 9 w w.heap.size A ts) (hl : ts.length ≤ 4294967296) :
    Calls Try.prog 36 #[.slice A ts.length c] w fun e w' => ∃ A' c', e = .returned (.slice A' ts.length c') ∧ Below w.heap.size w w' ∧ Sl encT 9 w' w'.heap.size A' (canonT ts) ∧ ts.length ≤ c' ∧ (ts = [] ∧ A' = none ∨ ∃ g, A' = some ⟨g, 0, none⟩ ∧ w.heap.size ≤ g ∧ g < w'.heap.size) := by
  go_enter Try.func36, Try.ntmps36
  go_wp2
  go_loopw [8, 3] (fun i v wr => ∃ k : Nat, k ≤ ts.length ∧ i = .int .i64 k ∧ Own encT 9 26 wr w.heap.size v k ((ts.take k).map rotT) ∧ Below w.heap.size w wr) (fun i _ _ => ts.length - (intOf i).toNat)
  case atStart => exact ⟨0, by omega, rfl, Own.nil, Below.refl _ _⟩
  case round =>
    obtain ⟨k, hk, rfl, hown, hB⟩ := hrel
    obtain ⟨A1, c1, rfl⟩ := hown.form
    have hsz := hB.size
    by_cases hlt : k < ts.length
    · obtain ⟨u, hu⟩ : ∃ u, ts[k]? = some u := ⟨_, List.getElem?_eq_getElem hlt⟩
      obtain ⟨b, o, hA, hb, g0, g1, g2, g3, g4, g5, g6, g7, g8⟩ := (hs.below hB).tri hu
      subst hA
      have HU := hide hu
      have HS := hide hs
      have HOwn := hide hown
      clear hu hs hown
      go_wp2_with fail
      refine (rotate_any u _).mono ?_
      rintro e w1 ⟨rfl, hL1⟩
      have hL : Lay wr w1 := ((Lay.refl _).alloc _).trans hL1
      have hB1 := hL.below
      have hown1 := HOwn.out.below hB1 (Nat.le_refl _)
      have hz1 := hB1.size
      have HL := hide (hB.trans (hB1.mono hsz))
      clear hL hB1 hL1 g0 g1 g2 g3 g4 g5 g6 g7 g8
      go_wp2_with (at_builtin; refine wpList_append1 rfl _ _ _ rfl Try.underlying27 infoT rfl (by omega) encT_len encT_one rfl (hown1.alloc _) w1.heap.size 1 (rotT u) rfl (Blk.new _ _ _) (by unfold maxLen; omega) (by omega) (by simp; omega) ?_; intro g cap w2 hown2 hg2 hB2 hat2 hgb2 hlt2)
      go_roundw
      case rel => exact ⟨k + 1, by omega, by go_num, by rw [map_take_snoc _ _ _ _ HU.out]; exact hown2, (HL.out.alloc (by omega) _).trans hB2⟩
      case measure => simp [intOf]; omega
    · have hk : k = ts.length := by omega
      subst hk
      rw [List.take_length] at hown
      by_cases hne : ts = []
      · subst hne
        have HO := hide hown
        clear hs hown
        go_wp2_with (go_at_call 48; refine (sort_tri_none _ _ _).mono ?_; rintro e w1 ⟨rfl, rfl⟩)
        go_ret
        refine ⟨A1, ⟨c1, rfl⟩, hB, ?_, (HO.out.place.2).imp (fun h => h.2) id⟩
        rw [show canonT [] = [] by simp [canonT, sortT]]
        exact HO.out.sl encT_len (Nat.le_refl _)
      · have hne' : ts.map rotT ≠ [] := by simpa using hne
        have hcap := hown.place.1
        obtain ⟨g, cap, hv, hbg, hlt⟩ := hown.at hne'
        injection hv with e1 _ e3
        subst e1 e3
        have hH := hown.holdsK encT_len
        have hcon := sort_tri g 0 c1 (ts.map rotT) wr hH hlt (by simp; omega)
        rw [List.length_map] at hcon
        have HC := hide hcon
        clear hs hown hH hcon hne hne'
        go_wp2_with (go_at_call 48; refine (unhide HC).mono ?_; rintro e w1 ⟨rfl, hg1, hH1⟩)
        go_ret
        have hsz1 := hg1.size
        exact ⟨_, c1, rfl, hB.grown hg1 hsz (fun r hr => by injection hr with hr; omega), Sl.of_holdsK encT_len (by omega) hH1, hcap, .inr ⟨g, rfl, hbg, by omega⟩⟩
end Go.Proofs.Ytgndbpkgehjelaa
/- slices.Clone at triangles, by its contract. -/
namespace Go.Proofs.Ytgndbpkgehjelaa
open Go.RowKit Go.Sort Go.Shelf
theorem flat_one {α : Type} {enc : α → List Value} (h1 : ∀ x, ∀ u ∈ enc x, u.oneCell' = true) (xs : List α) : ∀ u ∈ xs.flatMap enc, u.oneCell' = true := by
  intro u hu
  obtain ⟨x, _, hx⟩ := List.mem_flatMap.1 hu
  exact h1 x u hx
theorem Sl.flat {α : Type} {enc : α → List Value} {k : Nat} (hk : ∀ x, (enc x).length = k) {w : World} {b o : Nat} {xs : List α}
    (h : ∀ i x, xs[i]? = some x → ∀ j u, (enc x)[j]? = some u → w.cell? ⟨b, o + i * k + j, none⟩ = some u) : ∀ t u, (xs.flatMap enc)[t]? = some u → w.cell? ⟨b, o + t, none⟩ = some u := by
  intro t u hu
  have ht : t < xs.length * k := by rw [← flat_len hk xs]; exact (List.getElem?_eq_some_iff.1 hu).1
  have hk0 : 0 < k := by rcases Nat.eq_zero_or_pos k with h0 | h0; · subst h0; simp at ht
                         · exact h0
  have hi : t / k < xs.length := (Nat.div_lt_iff_lt_mul hk0).2 ht
  have hj : t % k < (enc xs[t / k]).length := by rw [hk]; exact Nat.mod_lt _ hk0
  have hx : xs[t / k]? = some xs[t / k] := List.getElem?_eq_getElem hi
  have hv : (enc xs[t / k])[t % k]? = some ((enc xs[t / k])[t % k]) := List.getElem?_eq_getElem hj
  have h2 := flat_get hk xs _ _ hx _ _ hv
  rw [Nat.div_add_mod' t k, hu] at h2
  have h3 := h _ _ hx _ _ hv
  rw [Nat.add_assoc, Nat.div_add_mod' t k, ← h2] at h3
  exact h3
theorem clone_any (A : Option Addr) (c : Nat) (ts : List Tri) (B : Nat) (w : World) (hs : Sl encT 9 w B A ts) (hl : ts.length ≤ 4294967296) :
    Calls Try.prog 37 #[.slice A ts.length c] w fun e w' => ∃ v, e = .returned v ∧ Own encT 9 26 w' w.heap.size v ts.length ts ∧ Below w.heap.size w w' := by
  rcases hs with ⟨rfl, rfl⟩ | ⟨b, o, rfl, hb, hc⟩
  · refine (AnyE.slices_Clone_nil cloneTriL 0 c w).mono ?_
    rintro e w' ⟨rfl, rfl⟩
    exact ⟨_, rfl, Own.nil, Below.refl _ _⟩
  · obtain ⟨i, hi0, hz0, hz1, hz2⟩ := info_parts infoT
    have h := AnyE.slices_Clone cloneTriL i _ 9 72 hi0 hz0 hz1 hz2 rfl (by omega) Try.sizeOf26 b o ts.length c (ts.flatMap encT) w (flat_len encT_len ts) (by unfold maxLen; omega) (by omega) (Sl.flat encT_len hc) (flat_one encT_one ts)
    refine h.mono ?_
    rintro e w' ⟨v, rfl, hown, _, hB⟩
    exact ⟨v, rfl, ⟨rfl, hown⟩, hB⟩
end Go.Proofs.Ytgndbpkgehjelaa
