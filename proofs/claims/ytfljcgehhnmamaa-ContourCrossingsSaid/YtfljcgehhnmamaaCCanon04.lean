/- ref04.Canon. -/
import Derived.Test.YtfljcgehhnmamaaCSort04
import Derived.Test.YtfljcgehhnmamaaCRot04
namespace Go.Proofs.Ytfljcgehhnmamaa
open Go.RowKit Go.Sort
theorem rotR_eq (t : Tri) : rotR t = rotT t := by
  unfold rotR rotT
  cases h1 : ltP t.2.1 t.1 <;> cases h2 : ltP t.2.2 t.1 <;> cases h3 : ltP t.2.2 t.2.1 <;> simp
  have := sto_P.trans _ _ _ h3 h1
  rw [h2] at this; cases this
theorem fitsT_rot {t : Tri} (h : fitsT t) : fitsT (rotT t) := by
  unfold rotT
  split <;> split
  · exact ⟨h.2.2, h.1, h.2.1⟩
  · exact ⟨h.2.1, h.2.2, h.1⟩
  · exact ⟨h.2.2, h.1, h.2.1⟩
  · exact h
/-- The canonical form. -/
def canonO (ts : List Tri) : List Tri := sortO ltT (ts.map rotT)
theorem fitsT_canon {ts : List Tri} (h : ∀ t ∈ ts, fitsT t) : ∀ t ∈ canonO ts, fitsT t := by
  intro t ht
  obtain ⟨u, hu, rfl⟩ := List.mem_map.1 (sortO_mem.1 ht)
  exact fitsT_rot (h u hu)
theorem canonO_length (ts : List Tri) : (canonO ts).length = ts.length := by simp [canonO, sortO_length]
theorem map_take_snoc' {α β : Type} (f : α → β) (xs : List α) (k : Nat) (x : α) (h : xs[k]? = some x) : (xs.take (k + 1)).map f = (xs.take k).map f ++ [f x] := by
  rw [List.take_add_one, h]
  simp
set_option maxHeartbeats 2000000 in
set_option maxRecDepth 100000 in
theorem canon04_any (A : Option Addr) (c : Nat) (ts : List Tri) (w : World) (hs : Sl encT 9 w w.heap.size A ts) (hl : ts.length ≤ 2147483648) (hf : ∀ t ∈ ts, fitsT t) :
    Calls Try.prog 32 #[.slice A ts.length c] w fun e w' => ∃ A' c', e = .returned (.slice A' ts.length c') ∧ Below w.heap.size w w' ∧ Sl encT 9 w' w'.heap.size A' (canonO ts) ∧ ts.length ≤ c' := by
  have HF := hide hf
  clear hf
  go_enter Try.func32, Try.ntmps32
  go_wp2
  go_loopw [3, 4] (fun v i wr => ∃ k : Nat, k ≤ ts.length ∧ i = .int .i64 k ∧ Own encT 9 40 wr w.heap.size v k ((ts.take k).map rotT) ∧ Below w.heap.size w wr) (fun _ i _ => ts.length - (intOf i).toNat)
  case atStart => exact ⟨0, by omega, rfl, Own.nil, Below.refl _ _⟩
  case round =>
    obtain ⟨k, hk, rfl, hown, hB⟩ := hrel
    obtain ⟨A1, c1, rfl⟩ := hown.form
    have hsz := hB.size
    by_cases hlt : k < ts.length
    · obtain ⟨u, hu⟩ : ∃ u, ts[k]? = some u := ⟨_, List.getElem?_eq_getElem hlt⟩
      obtain ⟨b, o, hA, hb, g0, g1, g2, g3, g4, g5, g6, g7, g8⟩ := (hs.below hB).tri hu
      subst hA
      have HU := hide hu
      have HS := hide hs
      have HOwn := hide hown
      clear hu hs hown
      go_wp2_with fail
      refine (rotateR_any u _).mono ?_
      rintro e w1 ⟨rfl, hB1⟩
      rw [rotR_eq]
      have hown1 := HOwn.out.below hB1 (Nat.le_refl _)
      have hz1 := hB1.size
      have HL := hide (hB.trans (hB1.mono hsz))
      clear hB1 g0 g1 g2 g3 g4 g5 g6 g7 g8
      go_wp2_with (at_builtin; refine wpList_append1 rfl _ _ _ rfl Try.underlying29 infoT rfl (by omega) encT_len encT_one rfl (hown1.alloc _) w1.heap.size 1 (rotT u) rfl (Blk.new _ _ _) (by unfold maxLen; omega) (by omega) (by simp; omega) ?_; intro g cap w2 hown2 hg2 hB2 hat2 hgb2 hlt2)
      go_roundw
      case rel => exact ⟨k + 1, by omega, by go_num, by rw [map_take_snoc' _ _ _ _ HU.out]; exact hown2, (HL.out.alloc (by omega) _).trans hB2⟩
      case measure => simp [intOf]; omega
    · have hk : k = ts.length := by omega
      subst hk
      rw [List.take_length] at hown
      have hlen : (ts.map rotT).length = ts.length := List.length_map _
      have hsort := sort04_any ts.length A1 c1 (ts.map rotT) wr (by rw [hlen]; exact Nat.le_refl _) (hown.sl encT_len (Nat.le_refl _)) (by rw [hlen]; exact hl) (by rw [hlen]; exact hown.place.1)
        (fun t ht => by obtain ⟨u, hu, rfl⟩ := List.mem_map.1 ht; exact fitsT_rot (HF.out u hu))
      rw [hlen] at hsort
      have HO := hide hsort
      clear hs hown hsort hlen
      go_wp2_with (go_at_call 52; refine (unhide HO).mono ?_; rintro e w1 ⟨A2, c2, rfl, hB2, hs2, hc2⟩)
      go_ret
      exact ⟨A2, c2, rfl, hB.trans (hB2.mono hsz), hs2, hc2⟩
end Go.Proofs.Ytfljcgehhnmamaa
