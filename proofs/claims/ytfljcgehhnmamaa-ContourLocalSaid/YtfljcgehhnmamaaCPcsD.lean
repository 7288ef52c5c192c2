/- Slices of slices of the call's own that share no block; no dump is named. -/
import Derived.Test.YtfljcgehhnmamaaCB8
namespace Go.Proofs.Ytfljcgehhnmamaa
open Go.RowKit Go.Sort
abbrev hv (s : Hdr) : Value := .slice s.1 s.2.1 s.2.2
/-- Headers ss hold ps, each in blocks of the call's own. -/
def Elems {α : Type} (enc : α → List Value) (k : Nat) (e : TypeId) (w : World) (base : Nat) : List Hdr → List (List α) → Prop
  | [], [] => True
  | s :: ss, p :: ps => (s.2.1 = p.length ∧ Own enc k e w base (hv s) p.length p) ∧ Elems enc k e w base ss ps
  | _, _ => False
def Apart2 (s t : Hdr) : Prop := ∀ g, (hv s).ownBlock = some g → (hv t).ownBlock ≠ some g
section
variable {α : Type} {enc : α → List Value} {k : Nat} {e te : TypeId} {w w' : World} {base : Nat} {v : Value} {ss rs : List Hdr} {ps qs : List (List α)}
theorem Elems.len : ∀ {ss : List Hdr} {ps : List (List α)}, Elems enc k e w base ss ps → ss.length = ps.length
  | [], [], _ => rfl
  | _ :: _, _ :: _, h => by simp [Elems.len h.2]
  | [], _ :: _, h => h.elim
  | _ :: _, [], h => h.elim
theorem Elems.imp {enc : α → List Value} {w w' : World} {base base' : Nat} : ∀ {ss : List Hdr} {ps : List (List α)}, (∀ s ∈ ss, ∀ p, Own enc k e w base (hv s) p.length p → Own enc k e w' base' (hv s) p.length p) → Elems enc k e w base ss ps → Elems enc k e w' base' ss ps
  | [], [], _, _ => trivial
  | s :: _, _ :: _, f, h => ⟨⟨h.1.1, f s (by simp) _ h.1.2⟩, Elems.imp (fun t ht => f t (by simp [ht])) h.2⟩
  | [], _ :: _, _, h => h.elim
  | _ :: _, [], _, h => h.elim
theorem Elems.append : ∀ {ss : List Hdr} {ps : List (List α)}, Elems enc k e w base ss ps → Elems enc k e w base rs qs → Elems enc k e w base (ss ++ rs) (ps ++ qs)
  | [], [], _, h => h
  | _ :: _, _ :: _, h, h' => ⟨h.1, Elems.append h.2 h'⟩
  | [], _ :: _, h, _ => h.elim
  | _ :: _, [], h, _ => h.elim
theorem Elems.take : ∀ (i : Nat) {ss : List Hdr} {ps : List (List α)}, Elems enc k e w base ss ps → Elems enc k e w base (ss.take i) (ps.take i)
  | 0, _, _, _ => trivial
  | _ + 1, [], [], _ => trivial
  | i + 1, _ :: _, _ :: _, h => ⟨h.1, Elems.take i h.2⟩
  | _ + 1, [], _ :: _, h => h.elim
  | _ + 1, _ :: _, [], h => h.elim
theorem Elems.drop : ∀ (i : Nat) {ss : List Hdr} {ps : List (List α)}, Elems enc k e w base ss ps → Elems enc k e w base (ss.drop i) (ps.drop i)
  | 0, _, _, h => h
  | _ + 1, [], [], _ => trivial
  | i + 1, _ :: _, _ :: _, h => Elems.drop i h.2
  | _ + 1, [], _ :: _, h => h.elim
  | _ + 1, _ :: _, [], h => h.elim
theorem Elems.at : ∀ {i : Nat} {ss : List Hdr} {ps : List (List α)} {p : List α}, Elems enc k e w base ss ps → ps[i]? = some p → ∃ A c, ss[i]? = some (A, p.length, c) ∧ Own enc k e w base (.slice A p.length c) p.length p
  | 0, s :: _, _ :: _, p, h, hi => by
    simp at hi; subst hi
    obtain ⟨A, n, c⟩ := s
    have h1 : n = _ := h.1.1
    subst h1
    exact ⟨A, c, rfl, h.1.2⟩
  | i + 1, _ :: _, _ :: _, p, h, hi => Elems.at (i := i) h.2 (by simpa using hi)
  | _, [], [], _, _, hi => by simp at hi
  | _, [], _ :: _, _, h, _ => h.elim
  | _, _ :: _, [], _, h, _ => h.elim
theorem Elems.set {s : Hdr} {p : List α} (hs : s.2.1 = p.length) (ho : Own enc k e w base (hv s) p.length p) : ∀ {i : Nat} {ss : List Hdr} {ps : List (List α)}, Elems enc k e w base ss ps → Elems enc k e w base (ss.set i s) (ps.set i p)
  | 0, _ :: _, _ :: _, h => ⟨⟨hs, ho⟩, h.2⟩
  | i + 1, _ :: _, _ :: _, h => ⟨h.1, Elems.set hs ho (i := i) h.2⟩
  | _, [], [], _ => trivial
  | _, [], _ :: _, h => h.elim
  | _, _ :: _, [], h => h.elim

/-- v is a slice of the call's own of slices of the call's own that share no block. -/
def PcsD {α : Type} (enc : α → List Value) (k : Nat) (e te : TypeId) (w : World) (base : Nat) (v : Value) (ps : List (List α)) : Prop :=
  ∃ ss : List Hdr, Own encS 1 te w base v ps.length ss ∧ Elems enc k e w base ss ps ∧ ss.Pairwise Apart2
theorem PcsD.nil : PcsD enc k e te w base (.slice none 0 0) ([] : List (List α)) := ⟨[], Own.nil, trivial, .nil⟩
theorem PcsD.pcs (h : PcsD enc k e te w base v ps) : Pcs enc k e te w base v ps := by
  obtain ⟨ss, ho, he, _⟩ := h
  exact ⟨ss, ho, fun i p hi => he.at hi⟩
theorem PcsD.form (h : PcsD enc k e te w base v ps) : ∃ A cap, v = .slice A ps.length cap := h.pcs.form
theorem PcsD.below {B : Nat} (h : PcsD enc k e te w base v ps) (hb : Below B w w') (hB : w.heap.size ≤ B) : PcsD enc k e te w' base v ps := by
  obtain ⟨ss, ho, he, hd⟩ := h
  exact ⟨ss, ho.below hb hB, he.imp (fun _ _ _ h => h.below hb hB), hd⟩
theorem PcsD.alloc (h : PcsD enc k e te w base v ps) (o : Obj) : PcsD enc k e te (w.alloc o) base v ps := by
  obtain ⟨ss, ho, he, hd⟩ := h
  exact ⟨ss, ho.alloc o, he.imp (fun _ _ _ h => h.alloc o), hd⟩
theorem PcsD.base_le {b' : Nat} (h : PcsD enc k e te w base v ps) (hb : b' ≤ base) : PcsD enc k e te w b' v ps := by
  obtain ⟨ss, ho, he, hd⟩ := h
  exact ⟨ss, ho.base_le hb, he.imp (fun _ _ _ h => h.base_le hb), hd⟩
/-- A row of another type has grown. -/
theorem PcsD.step {row : Option Nat} (h : PcsD enc k e te w base v ps) (hg : w.grownBy w' row) (hr : ∀ t, t = te ∨ t = e → ∀ r, row = some r → r < base ∨ ∀ cs, w.heap[r]? ≠ some (.cells cs t (0, 0))) : PcsD enc k e te w' base v ps := by
  obtain ⟨ss, ho, he, hd⟩ := h
  exact ⟨ss, ho.step hg (hr te (.inl rfl)), he.imp (fun _ _ _ h => h.step hg (hr e (.inr rfl))), hd⟩
theorem Elems.step {row : Option Nat} (h : Elems enc k e w base ss ps) (hg : w.grownBy w' row) (hr : ∀ r, row = some r → r < base ∨ ∀ cs, w.heap[r]? ≠ some (.cells cs e (0, 0))) : Elems enc k e w' base ss ps :=
  h.imp (fun _ _ _ h => h.step hg hr)
theorem Elems.alloc (h : Elems enc k e w base ss ps) (o : Obj) : Elems enc k e (w.alloc o) base ss ps := h.imp (fun _ _ _ h => h.alloc o)
theorem own_rowS {n : Nat} {xs : List Hdr} {t : TypeId} (h : Own encS 1 te w base v n xs) (hte : te ≠ t) : ∀ r, v.ownBlock = some r → r < base ∨ ∀ cs, w.heap[r]? ≠ some (.cells cs t (0, 0)) := fun r hr => by
  obtain ⟨cs, hc⟩ := h.cells r hr
  refine .inr fun cs' hc' => ?_
  rw [hc] at hc'
  cases hc'
  exact hte rfl
theorem own_rowT {β : Type} {encb : β → List Value} {kb : Nat} {eb : TypeId} {n : Nat} {xs : List β} {t : TypeId} (h : Own encb kb eb w base v n xs) (hte : eb ≠ t) : ∀ r, v.ownBlock = some r → r < base ∨ ∀ cs, w.heap[r]? ≠ some (.cells cs t (0, 0)) := fun r hr => by
  obtain ⟨cs, hc⟩ := h.cells r hr
  refine .inr fun cs' hc' => ?_
  rw [hc] at hc'
  cases hc'
  exact hte rfl
/-- A block that no element of ss lies in. -/
def Away (g : Nat) (ss : List Hdr) : Prop := ∀ s ∈ ss, (hv s).ownBlock ≠ some g
theorem Elems.away (h : Elems enc k e w base ss ps) {g : Nat} (hg : w.heap.size ≤ g) : Away g ss := by
  intro s hs he
  obtain ⟨i, hi⟩ := List.mem_iff_getElem?.1 hs
  have hl := h.len
  have hlt : i < ps.length := by have := (List.getElem?_eq_some_iff.1 hi).1; omega
  obtain ⟨A, c, h1, h2⟩ := h.at (List.getElem?_eq_getElem hlt)
  rw [hi] at h1
  cases h1
  have := (h2.blk g he).2
  omega
/-- A header put in between. -/
theorem apart_insert {s : Hdr} {i : Nat} (hd : ss.Pairwise Apart2) (hs : ∀ g, (hv s).ownBlock = some g → Away g ss) : (ss.take i ++ s :: ss.drop i).Pairwise Apart2 := by
  have h0 : (ss.take i ++ ss.drop i).Pairwise Apart2 := by rw [List.take_append_drop]; exact hd
  obtain ⟨h1, h2, h3⟩ := List.pairwise_append.1 h0
  refine List.pairwise_append.2 ⟨h1, List.pairwise_cons.2 ⟨fun t ht g hg he => hs g hg t (List.mem_of_mem_drop ht) he, h2⟩, fun a ha b hb => ?_⟩
  rcases List.mem_cons.1 hb with rfl | hb
  · exact fun g hg he => hs g he a (List.mem_of_mem_take ha) hg
  · exact h3 a ha b hb
/-- Element i's header turned: its block is its own, or new. -/
theorem apart_set : ∀ {i : Nat} {ss : List Hdr} {s t : Hdr}, ss.Pairwise Apart2 → ss[i]? = some s → (∀ g, (hv t).ownBlock = some g → (hv s).ownBlock = some g ∨ Away g ss) → (ss.set i t).Pairwise Apart2
  | 0, a :: r, s, t, hd, hi, ht => by
    simp at hi; subst hi
    obtain ⟨h1, h2⟩ := List.pairwise_cons.1 hd
    refine List.pairwise_cons.2 ⟨fun b hb g hg he => ?_, h2⟩
    rcases ht g hg with h | h
    · exact h1 b hb g h he
    · exact h b (by simp [hb]) he
  | i + 1, a :: r, s, t, hd, hi, ht => by
    simp at hi
    obtain ⟨h1, h2⟩ := List.pairwise_cons.1 hd
    refine List.pairwise_cons.2 ⟨fun b hb g hg he => ?_, apart_set h2 hi (fun g hg => (ht g hg).imp id (fun h b hb => h b (by simp [hb])))⟩
    rcases List.mem_or_eq_of_mem_set hb with hb | rfl
    · exact h1 b hb g hg he
    · rcases ht g he with h | h
      · exact h1 s (List.mem_of_getElem? hi) g hg h
      · exact h a (by simp) hg
  | _, [], _, _, hd, hi, _ => by simp at hi
/-- The elements but number i lie on where i's row grows. -/
theorem Elems.grow_at {w w' : World} {row : Option Nat} {s : Hdr} (hg : w.grownBy w' row) : ∀ {i : Nat} {ss : List Hdr} {ps : List (List α)} {t : Hdr} {q : List α}, Elems enc k e w base ss ps → ss.Pairwise Apart2 → ss[i]? = some s → row = (hv s).ownBlock → t.2.1 = q.length → Own enc k e w' base (hv t) q.length q →
    Elems enc k e w' base (ss.set i t) (ps.set i q)
  | 0, a :: r, p :: ps, t, q, h, hd, hi, hr, ht, ho => by
    simp at hi; subst hi
    obtain ⟨h1, _⟩ := List.pairwise_cons.1 hd
    refine ⟨⟨ht, ho⟩, h.2.imp fun b hb p hp => hp.kept hg ?_⟩
    rw [hr]
    cases hb0 : (hv b).ownBlock with
    | none => exact .inl rfl
    | some g => exact .inr fun e => h1 b hb g (by rw [← e]) hb0
  | i + 1, a :: r, p :: ps, t, q, h, hd, hi, hr, ht, ho => by
    simp at hi
    obtain ⟨h1, h2⟩ := List.pairwise_cons.1 hd
    refine ⟨⟨h.1.1, h.1.2.kept hg ?_⟩, Elems.grow_at hg h.2 h2 hi hr ht ho⟩
    rw [hr]
    cases hb0 : (hv a).ownBlock with
    | none => exact .inl rfl
    | some g => exact .inr fun e => h1 s (List.mem_of_getElem? hi) g hb0 (by rw [← e])
  | _, [], [], _, _, _, _, hi, _, _, _ => by simp at hi
  | _, [], _ :: _, _, _, h, _, _, _, _, _ => h.elim
  | _, _ :: _, [], _, _, h, _, _, _, _, _ => h.elim
/-- A cell of an owned row of headers is set. -/
theorem Own.setS {n cap g i : Nat} {s : Hdr} (h : Own encS 1 te w base (.slice (some ⟨g, 0, none⟩) n cap) n ss) (_hi : i < ss.length) : Own encS 1 te (w.setCell ⟨g, i, none⟩ (hv s)) base (.slice (some ⟨g, 0, none⟩) n cap) n (ss.set i s) := by
  refine ⟨by simpa using h.1, ?_⟩
  have hlen : ∀ xs : List Hdr, (xs.flatMap encS).length = xs.length := fun xs => by simpa using flat_len encS_len xs
  have hmap : ∀ xs : List Hdr, xs.flatMap encS = xs.map hv := fun xs => by induction xs <;> simp_all [encS]
  obtain ⟨h0, h1⟩ := h.2
  refine ⟨by rw [hlen] at h0 ⊢; simpa using h0, ?_⟩
  rcases h1 with ⟨h1, _⟩ | ⟨g', cap', cur, h1, hb, hheap, hnc, hcm, hsz, htake⟩
  · cases h1
  · cases h1
    refine .inr ⟨g, cap, cur.setIfInBounds i (hv s), rfl, hb, ?_, hnc, hcm, by simpa using hsz, ?_⟩
    · simp [World.setCell, Array.getElem?_modify, hheap]
    · rw [hmap] at htake ⊢
      rw [Array.toList_setIfInBounds, List.take_set, htake, List.map_set]
end
end Go.Proofs.Ytfljcgehhnmamaa
