/- Slices of ints whose values nobody knows any more; slices of such; no dump is named. -/
import Derived.Test.YtgndbpkgehjelaaCB7
namespace Go.Proofs.Ytgndbpkgehjelaa
open Go.RowKit Go.Sort
theorem grown_below {w0 A B : World} {row : Option Nat} {n : Nat} (h0 : w0.grownBy A row) (h : Below n A B) (hn : w0.heap.size ≤ n) : w0.grownBy B row :=
  ⟨h.os.trans h0.os, h.tape.trans h0.tape, h.output.trans h0.output, Nat.le_trans h0.size h.size, fun k hk hne => (h.block k (by omega)).trans (h0.block k hk hne)⟩
theorem grown_set {w0 A : World} {r i : Nat} {v : Value} (h0 : w0.grownBy A (some r)) : w0.grownBy (A.setCell ⟨r, i, none⟩ v) (some r) :=
  ⟨h0.os, h0.tape, h0.output, Nat.le_trans h0.size (KeepsWalks.setCell A _ v).size, fun k hk hne => (Below.heap_setCell A ⟨r, i, none⟩ v k (fun e => hne (by rw [e]))).trans (h0.block k hk hne)⟩
theorem grown_one (A : World) (r i : Nat) (v : Value) : A.grownBy (A.setCell ⟨r, i, none⟩ v) (some r) := grown_set (World.grownBy.refl A _)
/-- The slice at A has n elements of k ints each, in a block of the call's own. -/
def IntsAt (k : Nat) (e : TypeId) (w : World) (base : Nat) (A : Option Addr) (n : Nat) : Prop :=
  n = 0 ∨ ∃ g cs, A = some ⟨g, 0, none⟩ ∧ base ≤ g ∧ Blk w g e cs ∧ ∀ j, j < n * k → ∃ x, cs[j]? = some (.int .i64 x)
/-- v is a slice of such slices. -/
def PcsI (k : Nat) (e te : TypeId) (w : World) (base : Nat) (v : Value) (n : Nat) : Prop :=
  ∃ ss : List Hdr, Own encS 1 te w base v n ss ∧ ∀ (i : Nat) (s : Hdr), ss[i]? = some s → s.2.1 ≤ 4294967296 ∧ IntsAt k e w base s.1 s.2.1
section
variable {α : Type} {enc : α → List Value} {k : Nat} {e te : TypeId} {w w' : World} {base : Nat} {v : Value} {n : Nat} {xs : List α} {ps : List (List α)} {A : Option Addr}
theorem Own.ints {c : Nat} (hk : ∀ x, (enc x).length = k) (hi : ∀ x, ∀ u ∈ enc x, ∃ z, u = .int .i64 z) (h : Own enc k e w base (.slice A n c) n xs) : IntsAt k e w base A n := by
  rcases h.2.2 with ⟨hv, _⟩ | ⟨g, cap, cur, hv, hb, hg, _⟩
  · injection hv with _ h2
    exact .inl h2
  · injection hv with h1
    subst h1
    refine .inr ⟨g, cur, rfl, hb, hg, fun j hj => ?_⟩
    have hl : (xs.flatMap enc).length = n * k := by rw [flat_len hk, ← h.1]
    obtain ⟨u, hu⟩ : ∃ u, (xs.flatMap enc)[j]? = some u := ⟨_, List.getElem?_eq_getElem (by omega)⟩
    have hc := h.2.cells (g := g) rfl j u hu
    rw [add_none, cell_of_row _ _ _ _ _ _ hg, Nat.zero_add] at hc
    obtain ⟨x, _, hx⟩ := List.mem_flatMap.1 (List.mem_of_getElem? hu)
    obtain ⟨z, rfl⟩ := hi x u hx
    exact ⟨z, hc⟩
theorem IntsAt.block {w' : World} (h : IntsAt k e w base A n) (hb : ∀ g cs, base ≤ g → Blk w g e cs → Blk w' g e cs) : IntsAt k e w' base A n := by
  rcases h with h | ⟨g, cs, h1, h2, h3, h4⟩
  · exact .inl h
  · exact .inr ⟨g, cs, h1, h2, hb g cs h2 h3, h4⟩
theorem IntsAt.base_le {b' : Nat} (h : IntsAt k e w base A n) (hb : b' ≤ base) : IntsAt k e w b' A n := by
  rcases h with h | ⟨g, cs, h1, h2, h3, h4⟩
  · exact .inl h
  · exact .inr ⟨g, cs, h1, by omega, h3, h4⟩
theorem IntsAt.set (h : IntsAt k e w base A n) (g j : Nat) (x : Int) : IntsAt k e (w.setCell ⟨g, j, none⟩ (.int .i64 x)) base A n := by
  rcases h with h | ⟨g', cs, h1, h2, h3, h4⟩
  · exact .inl h
  · by_cases hg : g' = g
    · subst hg
      refine .inr ⟨g', _, h1, h2, h3.set_ j _, fun i hi => ?_⟩
      rw [Array.getElem?_setIfInBounds]
      split
      · rename_i hij
        subst hij
        obtain ⟨y, hy⟩ := h4 j hi
        have hl := (Array.getElem?_eq_some_iff.1 hy).1
        rw [if_pos hl]
        exact ⟨x, rfl⟩
      · exact h4 i hi
    · exact .inr ⟨g', cs, h1, h2, h3.far (p := ⟨g, j, none⟩) hg _, h4⟩
/-- Cell j. -/
theorem IntsAt.at {j : Nat} (h : IntsAt k e w base A n) (hj : j < n * k) : ∃ g x cs, A = some ⟨g, 0, none⟩ ∧ base ≤ g ∧ Blk w g e cs ∧ w.cell? ⟨g, j, none⟩ = some (.int .i64 x) ∧ w.frozen? ⟨g, j, none⟩ = false := by
  rcases h with h | ⟨g, cs, h1, h2, h3, h4⟩
  · subst h; omega
  · obtain ⟨x, hx⟩ := h4 j hj
    exact ⟨g, x, cs, h1, h2, h3, by rw [h3.cell]; exact hx, h3.frozen j⟩
theorem Pcs.ints (hk : ∀ x, (enc x).length = k) (hi : ∀ x, ∀ u ∈ enc x, ∃ z, u = .int .i64 z) (h : Pcs enc k e te w base v ps) (hb : ∀ p ∈ ps, p.length ≤ 4294967296) : PcsI k e te w base v ps.length := by
  obtain ⟨ss, ho, hp⟩ := h
  refine ⟨ss, ho, fun i s hs => ?_⟩
  have hl : i < ps.length := by rw [show ps.length = ss.length from ho.1]; exact (List.getElem?_eq_some_iff.1 hs).1
  obtain ⟨A, c, h1, h2⟩ := hp i ps[i] (List.getElem?_eq_getElem hl)
  rw [hs] at h1
  cases h1
  exact ⟨hb _ (List.getElem_mem hl), h2.ints hk hi⟩
theorem PcsI.base_le {b' : Nat} (h : PcsI k e te w base v n) (hb : b' ≤ base) : PcsI k e te w b' v n := by
  obtain ⟨ss, ho, hp⟩ := h
  exact ⟨ss, ho.base_le hb, fun i s hs => ⟨(hp i s hs).1, (hp i s hs).2.base_le hb⟩⟩
theorem PcsI.below {B : Nat} (h : PcsI k e te w base v n) (hb : Below B w w') (hB : w.heap.size ≤ B) : PcsI k e te w' base v n := by
  obtain ⟨ss, ho, hp⟩ := h
  exact ⟨ss, ho.below hb hB, fun i s hs => ⟨(hp i s hs).1, (hp i s hs).2.block fun g cs _ h => h.below hb (Nat.lt_of_lt_of_le h.lt hB)⟩⟩
theorem PcsI.drew (h : PcsI k e te w base v n) : PcsI k e te w.drew base v n := h
/-- A write of an int into a block of the elements' type. -/
theorem PcsI.set {g j : Nat} {cs : Array Value} (h : PcsI k e te w base v n) (hte : te ≠ e) (hg : Blk w g e cs) (x : Int) : PcsI k e te (w.setCell ⟨g, j, none⟩ (.int .i64 x)) base v n := by
  obtain ⟨ss, ho, hp⟩ := h
  refine ⟨ss, ho.step (grown_one w g j _) (fun r hr => .inr fun cs' hc => ?_), fun i s hs => ⟨(hp i s hs).1, (hp i s hs).2.set g j x⟩⟩
  injection hr with hr
  subst hr
  unfold Blk at hg
  rw [hg] at hc
  injection hc with hc
  injection hc with _ hc
  exact hte hc.symm
theorem PcsI.form (h : PcsI k e te w base v n) : ∃ A cap, v = .slice A n cap := by
  obtain ⟨ss, ho, _⟩ := h
  exact ho.form
/-- Element number i. -/
theorem PcsI.at {i : Nat} {c : Nat} (h : PcsI k e te w base (.slice A n c) n) (hi : i < n) : ∃ b o A' n' c', A = some ⟨b, o, none⟩ ∧ b < w.heap.size ∧ w.cell? ⟨b, o + i, none⟩ = some (.slice A' n' c') ∧ n' ≤ 4294967296 ∧ IntsAt k e w base A' n' := by
  obtain ⟨ss, ho, hp⟩ := h
  have hl : i < ss.length := by rw [← ho.1]; exact hi
  have hs : ss[i]? = some ss[i] := List.getElem?_eq_getElem hl
  obtain ⟨b, o, hA, hb, hc⟩ := (ho.sl encS_len (Nat.le_refl _)).at hs
  have h0 := hc 0 _ rfl
  rw [Nat.mul_one, Nat.add_zero] at h0
  exact ⟨b, o, _, _, _, hA, hb, h0, (hp i _ hs).1, (hp i _ hs).2⟩
end
end Go.Proofs.Ytgndbpkgehjelaa
