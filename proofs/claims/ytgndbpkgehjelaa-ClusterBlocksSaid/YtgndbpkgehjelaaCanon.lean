/- mesh.Canon: the canonical form. -/
import Derived.Test.YtgndbpkgehjelaaSort
import Derived.Test.YtgndbpkgehjelaaRot
import Derived.Test.YtgndbpkgehjelaaOwn
namespace Go.Proofs.Ytgndbpkgehjelaa
open Go.RowKit Go.Sort
def canonT (ts : List Tri) : List Tri := sortT (ts.map rotT)
theorem map_take_snoc {α β : Type} (f : α → β) (xs : List α) (k : Nat) (x : α) (h : xs[k]? = some x) : (xs.take (k + 1)).map f = (xs.take k).map f ++ [f x] := by
  rw [List.take_add_one, h]
  simp
theorem sort_tri_none (p : Option Addr) (c : Nat) (w : World) : Calls Try.prog 48 #[.slice p 0 c, .func (.func 49) #[] #[]] w fun e w' => e = .returned (.tuple #[]) ∧ w = w' := by
  have h := AnyF.slices_SortFunc_none sortTriL p c (.func (.func 49) #[] #[]) w
  exact h.mono fun e w' h => ⟨h.1, h.2.symm⟩
set_option maxHeartbeats 2000000 in
set_option maxRecDepth 100000 in
theorem canon_any (A : Option Addr) (c : Nat) (ts : List Tri) (w : World) (hs : Sl encT 9 w w.heap.size A ts) (hl : ts.length ≤ 4294967296) :
    Calls Try.prog 36 #[.slice A ts.length c] w fun e w' => ∃ A' c', e = .returned (.slice A' ts.length c') ∧ Below w.heap.size w w' ∧ Sl encT 9 w' w'.heap.size A' (canonT ts) ∧ ts.length ≤ c' ∧ (ts = [] ∧ A' = none ∨ ∃ g, A' = some ⟨g, 0, none⟩ ∧ w.heap.size ≤ g ∧ g < w'.heap.size) := by
  go_enter Try.func36, Try.ntmps36
  go_wp2
  go_loopw [8, 3] (fun i v wr => ∃ k : Nat, k ≤ ts.length ∧ i = .int .i64 k ∧ Own encT 9 26 wr w.heap.size v k ((ts.take k).map rotT) ∧ Below w.heap.size w wr) (fun i _ _ => ts.length - (intOf i).toNat)
  case atStart => exact ⟨0, by omega, rfl, Own.nil, Below.refl _ _⟩
  case round =>
    obtain ⟨k, hk, rfl, hown, hB⟩ := hrel
    obtain ⟨A1, c1, rfl⟩ := hown.form
    have hsz := hB.size
    by_cases hlt : k < ts.length
    · obtain ⟨u, hu⟩ : ∃ u, ts[k]? = some u := ⟨_, List.getElem?_eq_getElem hlt⟩
      obtain ⟨b, o, hA, hb, g0, g1, g2, g3, g4, g5, g6, g7, g8⟩ := (hs.below hB).tri hu
      subst hA
      have HU := hide hu
      have HS := hide hs
      have HOwn := hide hown
      clear hu hs hown
      go_wp2_with fail
      refine (rotate_any u _).mono ?_
      rintro e w1 ⟨rfl, hL1⟩
      have hL : Lay wr w1 := ((Lay.refl _).alloc _).trans hL1
      have hB1 := hL.below
      have hown1 := HOwn.out.below hB1 (Nat.le_refl _)
      have hz1 := hB1.size
      have HL := hide (hB.trans (hB1.mono hsz))
      clear hL hB1 hL1 g0 g1 g2 g3 g4 g5 g6 g7 g8
      go_wp2_with (at_builtin; refine wpList_append1 rfl _ _ _ rfl Try.underlying27 infoT rfl (by omega) encT_len encT_one rfl (hown1.alloc _) w1.heap.size 1 (rotT u) rfl (Blk.new _ _ _) (by unfold maxLen; omega) (by omega) (by simp; omega) ?_; intro g cap w2 hown2 hg2 hB2 hat2 hgb2 hlt2)
      go_roundw
      case rel => exact ⟨k + 1, by omega, by go_num, by rw [map_take_snoc _ _ _ _ HU.out]; exact hown2, (HL.out.alloc (by omega) _).trans hB2⟩
      case measure => simp [intOf]; omega
    · have hk : k = ts.length := by omega
      subst hk
      rw [List.take_length] at hown
      by_cases hne : ts = []
      · subst hne
        have HO := hide hown
        clear hs hown
        go_wp2_with (go_at_call 48; refine (sort_tri_none _ _ _).mono ?_; rintro e w1 ⟨rfl, rfl⟩)
        go_ret
        refine ⟨A1, ⟨c1, rfl⟩, hB, ?_, (HO.out.place.2).imp (fun h => h.2) id⟩
        rw [show canonT [] = [] by simp [canonT, sortT]]
        exact HO.out.sl encT_len (Nat.le_refl _)
      · have hne' : ts.map rotT ≠ [] := by simpa using hne
        have hcap := hown.place.1
        obtain ⟨g, cap, hv, hbg, hlt⟩ := hown.at hne'
        injection hv with e1 _ e3
        subst e1 e3
        have hH := hown.holdsK encT_len
        have hcon := sort_tri g 0 c1 (ts.map rotT) wr hH hlt (by simp; omega)
        rw [List.length_map] at hcon
        have HC := hide hcon
        clear hs hown hH hcon hne hne'
        go_wp2_with (go_at_call 48; refine (unhide HC).mono ?_; rintro e w1 ⟨rfl, hg1, hH1⟩)
        go_ret
        have hsz1 := hg1.size
        exact ⟨_, c1, rfl, hB.grown hg1 hsz (fun r hr => by injection hr with hr; omega), Sl.of_holdsK encT_len (by omega) hH1, hcap, .inr ⟨g, rfl, hbg, by omega⟩⟩
end Go.Proofs.Ytgndbpkgehjelaa
