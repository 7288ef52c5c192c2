/- Joined texts: Sort04 Canon04. -/
import Derived.Test.YtfljcgehhnmamaaCB25
import Derived.Test.YtfljcgehhnmamaaCB34
/- ref04.sort. -/
namespace Go.Proofs.Ytfljcgehhnmamaa
open Go.RowKit Go.Sort
set_option maxRecDepth 100000 in
set_option maxHeartbeats 4000000 in
theorem sort04_any (n : Nat) : ∀ (A : Option Addr) (c : Nat) (ts : List Tri) (w : World), ts.length ≤ n → Sl encT 9 w w.heap.size A ts → ts.length ≤ 2147483648 → ts.length ≤ c → (∀ t ∈ ts, fitsT t) →
    Calls Try.prog 52 #[.slice A ts.length c] w fun e w' => ∃ A' c', e = .returned (.slice A' ts.length c') ∧ Below w.heap.size w w' ∧ Sl encT 9 w' w'.heap.size A' (sortO ltT ts) ∧ ts.length ≤ c' := by
  induction n with
  | zero =>
    intro A c ts w hn hs hl hc hf
    have e : ts = [] := List.eq_nil_of_length_eq_zero (by omega)
    subst e
    have H := hide (And.intro hs hc)
    clear hs hc hf hn hl
    go_enter Try.func52, Try.ntmps52
    go_wp2_with fail
    go_ret
    exact ⟨A, c, rfl, Below.refl _ w, by rw [sortO_short (by simp)]; exact H.out.1, H.out.2⟩
  | succ n ih =>
    intro A c ts w hn hs hl hc hf
    by_cases h2 : ts.length < 2
    · have H := hide (And.intro hs (And.intro hc h2))
      have hd : decide ((ts.length : Int) < 2) = true := by simp; omega
      clear hs hc hf hn
      go_enter Try.func52, Try.ntmps52
      go_wp2_with fail
      go_ret
      exact ⟨A, c, rfl, Below.refl _ w, by rw [sortO_short H.out.2.2]; exact H.out.1, H.out.2.1⟩
    · obtain ⟨h, hh⟩ : ∃ h, h = ts.length / 2 := ⟨_, rfl⟩
      obtain ⟨t1, ht1⟩ : ∃ t1, t1 = ts.take h := ⟨_, rfl⟩
      obtain ⟨t2, ht2⟩ : ∃ t2, t2 = ts.drop h := ⟨_, rfl⟩
      have hl1 : t1.length = h := by rw [ht1, List.length_take]; omega
      have hl2 : t2.length = ts.length - h := by rw [ht2, List.length_drop]
      have hq : (ts.length : Int) / 2 = (h : Int) := by omega
      have hrun1 : ∀ V : World, (Instr.slice 29 (.slice A ts.length c) none (some (.int .i64 h)) none).run Try.prog V = .ok (.slice A t1.length c) V := fun V => by
        rw [hl1]; exact run_cutH Try.underlying29 Try.sizeOf40 (by omega) hc V
      have hrun2 : ∀ V : World, (Instr.slice 29 (.slice A ts.length c) (some (.int .i64 h)) none none).run Try.prog V = .ok (.slice (cutA A c h 9) t2.length (c - h)) V := fun V => by
        rw [hl2]; exact run_cut Try.underlying29 Try.sizeOf40 (by omega) V
      have hs1 : Sl encT 9 w w.heap.size A t1 := by rw [ht1]; exact hs.take h
      have hs2 : Sl encT 9 w w.heap.size (cutA A c h 9) t2 := by rw [ht2]; exact hs.cut (by omega) hc
      have hf1 : ∀ t ∈ t1, fitsT t := fun t ht => hf t (by rw [ht1] at ht; exact List.mem_of_mem_take ht)
      have hf2 : ∀ t ∈ t2, fitsT t := fun t ht => hf t (by rw [ht2] at ht; exact List.mem_of_mem_drop ht)
      have hsum : t1.length + t2.length = ts.length := by omega
      have hm : mergeT (sortO ltT t1) (sortO ltT t2) = sortO ltT ts := by rw [ht1, ht2]; exact tot_T.halves ts h
      have hb1 : t1.length ≤ n ∧ t1.length ≤ 2147483648 ∧ t1.length ≤ c := by omega
      have hb2 : t2.length ≤ n ∧ t2.length ≤ 2147483648 ∧ t2.length ≤ c - h := by omega
      have hd : decide ((ts.length : Int) < 2) = false := by simp; omega
      have hw : wrap64 (h : Int) = h := by unfold wrap64; omega
      have HI := hide ih
      have HS := hide (And.intro hs1 (And.intro hs2 (And.intro hf1 (And.intro hf2 (And.intro hsum (And.intro hm (And.intro hb1 hb2)))))))
      clear hs hs1 hs2 hf hf1 hf2 hsum hm hb1 hb2 ih hn hl hc hh ht1 ht2 hl1 hl2
      go_enter Try.func52, Try.ntmps52
      go_wp2_with fail
      go_region_held3 (fun _ => True) (trivial) (first
        | (go_at_call 79; rw [← sortO_length (lt := ltT) t1, ← sortO_length (lt := ltT) t2]; refine (merge_any A1 A2 c1 c2 (sortO ltT t1) (sortO ltT t2) _ ((hs1.below hB2).more hB2.size) hs2 (by rw [sortO_length]; have := HS.out.2.2.2.2.2.2.1.2.1; omega) (by rw [sortO_length]; have := HS.out.2.2.2.2.2.2.2.2.1; omega) (by rw [sortO_length]; exact hc2) (fun t ht => HS.out.2.2.1 t (sortO_mem.1 ht)) (fun t ht => HS.out.2.2.2.1 t (sortO_mem.1 ht))).mono ?_; rintro e w3 ⟨v, rfl, hown, hB3⟩)
        | (go_at_call 52; have hB1' := hB1; refine (HI.out (cutA A c h 9) (c - h) t2 _ HS.out.2.2.2.2.2.2.2.1 ((HS.out.2.1.below hB1).more hB1.size) HS.out.2.2.2.2.2.2.2.2.1 HS.out.2.2.2.2.2.2.2.2.2 HS.out.2.2.2.1).mono ?_; rintro e w2 ⟨A2, c2, rfl, hB2, hs2, hc2⟩)
        | (go_at_call 52; refine (HI.out A c t1 w.drew HS.out.2.2.2.2.2.2.1.1 HS.out.1 HS.out.2.2.2.2.2.2.1.2.1 HS.out.2.2.2.2.2.2.1.2.2 HS.out.2.2.1).mono ?_; rintro e w1 ⟨A1, c1, rfl, hB0, hs1, hc1⟩; have hB1 := (below_drew w).trans hB0; clear hB0))
      go_wp2
      go_ret
      obtain ⟨A3, c3, rfl⟩ := hown.form
      have hmm := HS.out.2.2.2.2.2.1
      have hsum := HS.out.2.2.2.2.1
      rw [hmm] at hown
      rw [sortO_length, sortO_length, hsum] at hown ⊢
      exact ⟨A3, c3, rfl, (hB1.trans (hB2.mono hB1.size)).trans (hB3.mono (by have := hB1.size; have := hB2.size; omega)), hown.sl encT_len (Nat.le_refl _), hown.place.1⟩
end Go.Proofs.Ytfljcgehhnmamaa
/- ref04.Canon. -/
namespace Go.Proofs.Ytfljcgehhnmamaa
open Go.RowKit Go.Sort
theorem rotR_eq (t : Tri) : rotR t = rotT t := by
  unfold rotR rotT
  cases h1 : ltP t.2.1 t.1 <;> cases h2 : ltP t.2.2 t.1 <;> cases h3 : ltP t.2.2 t.2.1 <;> simp
  have := sto_P.trans _ _ _ h3 h1
  rw [h2] at this; cases this
theorem fitsT_rot {t : Tri} (h : fitsT t) : fitsT (rotT t) := by
  unfold rotT
  split <;> split
  · exact ⟨h.2.2, h.1, h.2.1⟩
  · exact ⟨h.2.1, h.2.2, h.1⟩
  · exact ⟨h.2.2, h.1, h.2.1⟩
  · exact h
/-- The canonical form. -/
def canonO (ts : List Tri) : List Tri := sortO ltT (ts.map rotT)
theorem fitsT_canon {ts : List Tri} (h : ∀ t ∈ ts, fitsT t) : ∀ t ∈ canonO ts, fitsT t := by
  intro t ht
  obtain ⟨u, hu, rfl⟩ := List.mem_map.1 (sortO_mem.1 ht)
  exact fitsT_rot (h u hu)
theorem canonO_length (ts : List Tri) : (canonO ts).length = ts.length := by simp [canonO, sortO_length]
theorem map_take_snoc' {α β : Type} (f : α → β) (xs : List α) (k : Nat) (x : α) (h : xs[k]? = some x) : (xs.take (k + 1)).map f = (xs.take k).map f ++ [f x] := by
  rw [List.take_add_one, h]
  simp
set_option maxHeartbeats 2000000 in
set_option maxRecDepth 100000 in
theorem canon04_any (A : Option Addr) (c : Nat) (ts : List Tri) (w : World) (hs : Sl encT 9 w w.heap.size A ts) (hl : ts.length ≤ 2147483648) (hf : ∀ t ∈ ts, fitsT t) :
    Calls Try.prog 32 #[.slice A ts.length c] w fun e w' => ∃ A' c', e = .returned (.slice A' ts.length c') ∧ Below w.heap.size w w' ∧ Sl encT 9 w' w'.heap.size A' (canonO ts) ∧ ts.length ≤ c' := by
  have HF := hide hf
  clear hf
  go_enter Try.func32, Try.ntmps32
  go_wp2
  go_loopw [3, 4] (fun v i wr => ∃ k : Nat, k ≤ ts.length ∧ i = .int .i64 k ∧ Own encT 9 40 wr w.heap.size v k ((ts.take k).map rotT) ∧ Below w.heap.size w wr) (fun _ i _ => ts.length - (intOf i).toNat)
  case atStart => exact ⟨0, by omega, rfl, Own.nil, Below.refl _ _⟩
  case round =>
    obtain ⟨k, hk, rfl, hown, hB⟩ := hrel
    obtain ⟨A1, c1, rfl⟩ := hown.form
    have hsz := hB.size
    by_cases hlt : k < ts.length
    · obtain ⟨u, hu⟩ : ∃ u, ts[k]? = some u := ⟨_, List.getElem?_eq_getElem hlt⟩
      obtain ⟨b, o, hA, hb, g0, g1, g2, g3, g4, g5, g6, g7, g8⟩ := (hs.below hB).tri hu
      subst hA
      have HU := hide hu
      have HS := hide hs
      have HOwn := hide hown
      clear hu hs hown
      go_wp2_with fail
      refine (rotateR_any u _).mono ?_
      rintro e w1 ⟨rfl, hB1⟩
      rw [rotR_eq]
      have hown1 := HOwn.out.below hB1 (Nat.le_refl _)
      have hz1 := hB1.size
      have HL := hide (hB.trans (hB1.mono hsz))
      clear hB1 g0 g1 g2 g3 g4 g5 g6 g7 g8
      go_wp2_with (at_builtin; refine wpList_append1 rfl _ _ _ rfl Try.underlying29 infoT rfl (by omega) encT_len encT_one rfl (hown1.alloc _) w1.heap.size 1 (rotT u) rfl (Blk.new _ _ _) (by unfold maxLen; omega) (by omega) (by simp; omega) ?_; intro g cap w2 hown2 hg2 hB2 hat2 hgb2 hlt2)
      go_roundw
      case rel => exact ⟨k + 1, by omega, by go_num, by rw [map_take_snoc' _ _ _ _ HU.out]; exact hown2, (HL.out.alloc (by omega) _).trans hB2⟩
      case measure => simp [intOf]; omega
    · have hk : k = ts.length := by omega
      subst hk
      rw [List.take_length] at hown
      have hlen : (ts.map rotT).length = ts.length := List.length_map _
      have hsort := sort04_any ts.length A1 c1 (ts.map rotT) wr (by rw [hlen]; exact Nat.le_refl _) (hown.sl encT_len (Nat.le_refl _)) (by rw [hlen]; exact hl) (by rw [hlen]; exact hown.place.1)
        (fun t ht => by obtain ⟨u, hu, rfl⟩ := List.mem_map.1 ht; exact fitsT_rot (HF.out u hu))
      rw [hlen] at hsort
      have HO := hide hsort
      clear hs hown hsort hlen
      go_wp2_with (go_at_call 52; refine (unhide HO).mono ?_; rintro e w1 ⟨A2, c2, rfl, hB2, hs2, hc2⟩)
      go_ret
      exact ⟨A2, c2, rfl, hB.trans (hB2.mono hsz), hs2, hc2⟩
end Go.Proofs.Ytfljcgehhnmamaa
