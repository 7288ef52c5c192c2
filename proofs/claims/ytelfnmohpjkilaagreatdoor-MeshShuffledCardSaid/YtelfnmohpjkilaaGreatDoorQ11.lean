/- Pcs App PcsD. -/
import Derived.WalkKit
import Derived.WalkSpells
import Derived.WalkLawsBesides
import Derived.Laws.OwnMore
import Derived.Deep.AppendLies
import Derived.Deep.Draws
import Derived.Maps.AppendAt
import Derived.OwnWalk
import Derived.Sort.Grow
import Derived.Shelf.GgSortFunc.RowK
import Derived.RangeFuncNested
import Derived.RangeFuncBox
import Derived.Test.YtelfnmohpjkilaaGreatDoorQ8
namespace Go.Proofs.YtelfnmohpjkilaaGreatDoor
open Go.RowKit Go.Sort

abbrev Hdr := Option Addr × Nat × Nat
def encS (s : Hdr) : List Value := [.slice s.1 s.2.1 s.2.2]
theorem encS_len (s : Hdr) : (encS s).length = 1 := rfl
theorem encS_one (s : Hdr) : ∀ u ∈ encS s, u.oneCell' = true := by
  intro u hu
  simp only [encS, List.mem_singleton] at hu
  subst hu
  rfl

/-- v is a slice of the call's own (blocks from base on) of slices of the call's own, which hold ps. -/
def Pcs {α : Type} (enc : α → List Value) (k : Nat) (e te : TypeId) (w : World) (base : Nat) (v : Value) (ps : List (List α)) : Prop :=
  ∃ ss : List Hdr, Own encS 1 te w base v ps.length ss ∧ ∀ (i : Nat) (p : List α), ps[i]? = some p → ∃ A c, ss[i]? = some (A, p.length, c) ∧ Own enc k e w base (.slice A p.length c) p.length p

section
variable {α : Type} {enc : α → List Value} {k : Nat} {e te : TypeId} {w w' : World} {base : Nat} {v : Value} {n : Nat} {xs : List α} {ps : List (List α)}
/-- A step that turns one block that is no own block of this type. -/
theorem Own.step {row : Option Nat} (h : Own enc k e w base v n xs) (hg : w.grownBy w' row) (hr : ∀ r, row = some r → r < base ∨ ∀ cs, w.heap[r]? ≠ some (.cells cs e (0, 0))) : Own enc k e w' base v n xs := by
  refine h.kept hg ?_
  cases hv : v.ownBlock with
  | none => exact .inl rfl
  | some g =>
    refine .inr fun e' => ?_
    obtain ⟨cs, hc⟩ := h.cells g hv
    rcases hr g e'.symm with hlt | hn
    · have := (h.blk g hv).1; omega
    · exact hn cs hc
theorem Pcs.form (h : Pcs enc k e te w base v ps) : ∃ A cap, v = .slice A ps.length cap := by
  obtain ⟨ss, ho, _⟩ := h
  exact ho.form
end


end Go.Proofs.YtelfnmohpjkilaaGreatDoor
namespace Go.Proofs.YtelfnmohpjkilaaGreatDoor
open Go.RowKit Go.Sort
section
variable {P : Program} {α : Type} {enc : α → List Value} {k : Nat} {e : TypeId} {w : World} {base : Nat} {v : Value} {n : Nat} {xs : List α}
theorem run_append_nilsrc (base : Nat) (t ty e : TypeId) (i : TypeInfo) (size : Nat) (ht : P.underlying t = some (.slice e)) (hi : P.info? e = some i)
    (v : Value) (n c : Nat) (xs : List Value) (hown : w.ownsRow base e size v n xs) :
    (Builtin.append_ #[t, t] ty #[v, .slice none 0 c]).run P w = .ok v w := by
  rcases hown.2 with ⟨rfl, rfl⟩ | ⟨g, cap, cur, rfl, _, _, hnc, _⟩
  · simp [Builtin.append_, run_underlying ht, sizeOf, typeInfo, hi, Builtin.lenOf, Builtin.firstCells]
  · simp [Builtin.append_, run_underlying ht, sizeOf, typeInfo, hi, Builtin.lenOf, Builtin.firstCells, hnc, storeCells]
/-- The cells of a slice that reads as ys. -/
theorem Sl.cellsAll {B b o' : Nat} {ys : List α} (hk0 : 0 < k) (hk : ∀ x, (enc x).length = k) (hsl : Sl enc k w B (some ⟨b, o', none⟩) ys) : ∀ t u, (ys.flatMap enc)[t]? = some u → w.cell? ⟨b, o' + t, none⟩ = some u := by
  rcases hsl with ⟨_, h0⟩ | ⟨b2, o2, ha, _, hc⟩
  · cases h0
  · cases ha
    intro t u hu
    have ht : t < ys.length * k := by rw [← flat_len hk ys]; exact (List.getElem?_eq_some_iff.1 hu).1
    have hi : t / k < ys.length := (Nat.div_lt_iff_lt_mul hk0).2 ht
    have hj : t % k < (enc ys[t / k]).length := by rw [hk]; exact Nat.mod_lt _ hk0
    have hx : ys[t / k]? = some ys[t / k] := List.getElem?_eq_getElem hi
    have hv : (enc ys[t / k])[t % k]? = some ((enc ys[t / k])[t % k]) := List.getElem?_eq_getElem hj
    have h2 := flat_get hk ys _ _ hx _ _ hv
    rw [Nat.div_add_mod' t k, hu] at h2
    have h3 := hc _ _ hx _ _ hv
    rw [Nat.add_assoc, Nat.div_add_mod' t k, ← h2] at h3
    exact h3
/-- 'append(s, ys...)', whatever ys. -/
theorem wpList_appendS {ops : Array Oper} {rest : List Oper} {o : Oper} {a : Act} {Q : Exit → Act → World → Prop} (hgd : o.guard = none) (s x : Operand) (t : TypeId)
    (ho : o.op = .call { callee := .builtin .append, args := #[s, x], argTypes := #[t, t] })
    {z : Value} {bytes : Nat} (ht : P.underlying t = some (.slice e)) (hi : (P.info? e).map (fun i => (i.zero, i.size, i.bytes)) = some (some z, k, bytes))
    (hzs : z.cells.size = k) (hk0 : 0 < k) (hk : ∀ x, (enc x).length = k) (h1 : ∀ x, ∀ u ∈ enc x, u.oneCell' = true)
    (hs : a.eval s = v) (hown : Own enc k e w base v n xs) (A : Option Addr) (c B : Nat) (ys : List α) (hx : a.eval x = .slice A ys.length c) (hsl : Sl enc k w B A ys)
    (h63 : n + ys.length ≤ maxLen) (hbytes : (n + ys.length) * bytes ≤ 140737488355328) (hbase : base ≤ w.heap.size)
    (h : ∀ v' w', Own enc k e w' base v' (n + ys.length) (xs ++ ys) → w.grownBy w' v.ownBlock → Below base w w' → (v'.ownBlock = v.ownBlock ∨ v'.ownBlock = some w.heap.size) →
      wpList P ops Q rest (a.put o.dst v') w') : wpList P ops Q (o :: rest) a w := by
  obtain ⟨i, hi0, hz0, hz1, hz2⟩ := info_parts hi
  refine wpList_plain hgd fun K hK => ?_
  have key : ∃ v' w', (Builtin.append_ #[t, t] o.type #[v, .slice A ys.length c]).run P w = .ok v' w' ∧ w'.ownsRow base e k v' (n + ys.length) (xs.flatMap enc ++ ys.flatMap enc) ∧ w.grownBy w' v.ownBlock ∧ (v'.ownBlock = v.ownBlock ∨ v'.ownBlock = some w.heap.size) := by
    cases A with
    | none =>
      have hy : ys = [] := by
        rcases hsl with ⟨h, _⟩ | ⟨b, o', ha, _⟩
        · exact h
        · cases ha
      subst hy
      exact ⟨v, w, run_append_nilsrc base t o.type e i k ht hi0 v n c _ hown.2, by simpa using hown.2, World.grownBy.refl _ _, .inl rfl⟩
    | some ad =>
      have hsl' : ∃ b o', ad = ⟨b, o', none⟩ := by
        rcases hsl with ⟨_, h⟩ | ⟨b, o', ha, _⟩
        · cases h
        · exact ⟨b, o', by injection ha⟩
      obtain ⟨b, o', rfl⟩ := hsl'
      obtain ⟨v', w', hr, h2, h3, _, h5⟩ := run_append_own_at (P := P) (w := w) base t o.type e i z k bytes ht hi0 hz0 hz1 hz2 hzs hk0 v n (xs.flatMap enc) hown.2 ⟨b, o', none⟩ ys.length c (ys.flatMap enc) (flat_len hk ys)
        (fun j u hu => by rw [add_none]; exact hsl.cellsAll hk0 hk j u hu) (fun u hu => by obtain ⟨x, _, hx⟩ := List.mem_flatMap.1 hu; exact h1 x u hx) h63 hbytes hbase
      exact ⟨v', w', hr, h2, h3, h5⟩
  obtain ⟨v', w', hr, h2, h3, h5⟩ := key
  unfold Oper.wp
  simp only [execOp, ho, resolve, invoke, builtin, Sem.run_bind, Sem.run_pure, Result.andThen_ok, List.map_toArray, List.map_cons, List.map_nil, hs, hx, hr]
  exact hK _ _ (h v' w' ⟨by simp [hown.1], by simpa using h2⟩ h3 ((Below.refl base w).grown h3 hbase (fun r hr => (hown.blk r hr).1)) h5)
end
end Go.Proofs.YtelfnmohpjkilaaGreatDoor
namespace Go.Proofs.YtelfnmohpjkilaaGreatDoor
open Go.RowKit Go.Sort
abbrev hv (s : Hdr) : Value := .slice s.1 s.2.1 s.2.2
/-- Headers ss hold ps, each in blocks of the call's own. -/
def Elems {α : Type} (enc : α → List Value) (k : Nat) (e : TypeId) (w : World) (base : Nat) : List Hdr → List (List α) → Prop
  | [], [] => True
  | s :: ss, p :: ps => (s.2.1 = p.length ∧ Own enc k e w base (hv s) p.length p) ∧ Elems enc k e w base ss ps
  | _, _ => False
def Apart2 (s t : Hdr) : Prop := ∀ g, (hv s).ownBlock = some g → (hv t).ownBlock ≠ some g
section
variable {α : Type} {enc : α → List Value} {k : Nat} {e te : TypeId} {w w' : World} {base : Nat} {v : Value} {ss rs : List Hdr} {ps qs : List (List α)}
theorem Elems.len : ∀ {ss : List Hdr} {ps : List (List α)}, Elems enc k e w base ss ps → ss.length = ps.length
  | [], [], _ => rfl
  | _ :: _, _ :: _, h => by simp [Elems.len h.2]
  | [], _ :: _, h => h.elim
  | _ :: _, [], h => h.elim
theorem Elems.imp {enc : α → List Value} {w w' : World} {base base' : Nat} : ∀ {ss : List Hdr} {ps : List (List α)}, (∀ s ∈ ss, ∀ p, Own enc k e w base (hv s) p.length p → Own enc k e w' base' (hv s) p.length p) → Elems enc k e w base ss ps → Elems enc k e w' base' ss ps
  | [], [], _, _ => trivial
  | s :: _, _ :: _, f, h => ⟨⟨h.1.1, f s (by simp) _ h.1.2⟩, Elems.imp (fun t ht => f t (by simp [ht])) h.2⟩
  | [], _ :: _, _, h => h.elim
  | _ :: _, [], _, h => h.elim
theorem Elems.append : ∀ {ss : List Hdr} {ps : List (List α)}, Elems enc k e w base ss ps → Elems enc k e w base rs qs → Elems enc k e w base (ss ++ rs) (ps ++ qs)
  | [], [], _, h => h
  | _ :: _, _ :: _, h, h' => ⟨h.1, Elems.append h.2 h'⟩
  | [], _ :: _, h, _ => h.elim
  | _ :: _, [], h, _ => h.elim
theorem Elems.at : ∀ {i : Nat} {ss : List Hdr} {ps : List (List α)} {p : List α}, Elems enc k e w base ss ps → ps[i]? = some p → ∃ A c, ss[i]? = some (A, p.length, c) ∧ Own enc k e w base (.slice A p.length c) p.length p
  | 0, s :: _, _ :: _, p, h, hi => by
    simp at hi; subst hi
    obtain ⟨A, n, c⟩ := s
    have h1 : n = _ := h.1.1
    subst h1
    exact ⟨A, c, rfl, h.1.2⟩
  | i + 1, _ :: _, _ :: _, p, h, hi => Elems.at (i := i) h.2 (by simpa using hi)
  | _, [], [], _, _, hi => by simp at hi
  | _, [], _ :: _, _, h, _ => h.elim
  | _, _ :: _, [], _, h, _ => h.elim
/-- v is a slice of the call's own of slices of the call's own that share no block. -/
def PcsD {α : Type} (enc : α → List Value) (k : Nat) (e te : TypeId) (w : World) (base : Nat) (v : Value) (ps : List (List α)) : Prop :=
  ∃ ss : List Hdr, Own encS 1 te w base v ps.length ss ∧ Elems enc k e w base ss ps ∧ ss.Pairwise Apart2
theorem PcsD.nil : PcsD enc k e te w base (.slice none 0 0) ([] : List (List α)) := ⟨[], Own.nil, trivial, .nil⟩
theorem PcsD.pcs (h : PcsD enc k e te w base v ps) : Pcs enc k e te w base v ps := by
  obtain ⟨ss, ho, he, _⟩ := h
  exact ⟨ss, ho, fun i p hi => he.at hi⟩
theorem PcsD.form (h : PcsD enc k e te w base v ps) : ∃ A cap, v = .slice A ps.length cap := h.pcs.form
theorem PcsD.base_le {b' : Nat} (h : PcsD enc k e te w base v ps) (hb : b' ≤ base) : PcsD enc k e te w b' v ps := by
  obtain ⟨ss, ho, he, hd⟩ := h
  exact ⟨ss, ho.base_le hb, he.imp (fun _ _ _ h => h.base_le hb), hd⟩
theorem Elems.step {row : Option Nat} (h : Elems enc k e w base ss ps) (hg : w.grownBy w' row) (hr : ∀ r, row = some r → r < base ∨ ∀ cs, w.heap[r]? ≠ some (.cells cs e (0, 0))) : Elems enc k e w' base ss ps :=
  h.imp (fun _ _ _ h => h.step hg hr)
theorem Elems.alloc (h : Elems enc k e w base ss ps) (o : Obj) : Elems enc k e (w.alloc o) base ss ps := h.imp (fun _ _ _ h => h.alloc o)
theorem own_rowT {β : Type} {encb : β → List Value} {kb : Nat} {eb : TypeId} {n : Nat} {xs : List β} {t : TypeId} (h : Own encb kb eb w base v n xs) (hte : eb ≠ t) : ∀ r, v.ownBlock = some r → r < base ∨ ∀ cs, w.heap[r]? ≠ some (.cells cs t (0, 0)) := fun r hr => by
  obtain ⟨cs, hc⟩ := h.cells r hr
  refine .inr fun cs' hc' => ?_
  rw [hc] at hc'
  cases hc'
  exact hte rfl
/-- A block that no element of ss lies in. -/
def Away (g : Nat) (ss : List Hdr) : Prop := ∀ s ∈ ss, (hv s).ownBlock ≠ some g
theorem Elems.away (h : Elems enc k e w base ss ps) {g : Nat} (hg : w.heap.size ≤ g) : Away g ss := by
  intro s hs he
  obtain ⟨i, hi⟩ := List.mem_iff_getElem?.1 hs
  have hl := h.len
  have hlt : i < ps.length := by have := (List.getElem?_eq_some_iff.1 hi).1; omega
  obtain ⟨A, c, h1, h2⟩ := h.at (List.getElem?_eq_getElem hlt)
  rw [hi] at h1
  cases h1
  have := (h2.blk g he).2
  omega
/-- Element i's header turned: its block is its own, or new. -/
theorem apart_set : ∀ {i : Nat} {ss : List Hdr} {s t : Hdr}, ss.Pairwise Apart2 → ss[i]? = some s → (∀ g, (hv t).ownBlock = some g → (hv s).ownBlock = some g ∨ Away g ss) → (ss.set i t).Pairwise Apart2
  | 0, a :: r, s, t, hd, hi, ht => by
    simp at hi; subst hi
    obtain ⟨h1, h2⟩ := List.pairwise_cons.1 hd
    refine List.pairwise_cons.2 ⟨fun b hb g hg he => ?_, h2⟩
    rcases ht g hg with h | h
    · exact h1 b hb g h he
    · exact h b (by simp [hb]) he
  | i + 1, a :: r, s, t, hd, hi, ht => by
    simp at hi
    obtain ⟨h1, h2⟩ := List.pairwise_cons.1 hd
    refine List.pairwise_cons.2 ⟨fun b hb g hg he => ?_, apart_set h2 hi (fun g hg => (ht g hg).imp id (fun h b hb => h b (by simp [hb])))⟩
    rcases List.mem_or_eq_of_mem_set hb with hb | rfl
    · exact h1 b hb g hg he
    · rcases ht g he with h | h
      · exact h1 s (List.mem_of_getElem? hi) g hg h
      · exact h a (by simp) hg
  | _, [], _, _, hd, hi, _ => by simp at hi
/-- The elements but number i lie on where i's row grows. -/
theorem Elems.grow_at {w w' : World} {row : Option Nat} {s : Hdr} (hg : w.grownBy w' row) : ∀ {i : Nat} {ss : List Hdr} {ps : List (List α)} {t : Hdr} {q : List α}, Elems enc k e w base ss ps → ss.Pairwise Apart2 → ss[i]? = some s → row = (hv s).ownBlock → t.2.1 = q.length → Own enc k e w' base (hv t) q.length q →
    Elems enc k e w' base (ss.set i t) (ps.set i q)
  | 0, a :: r, p :: ps, t, q, h, hd, hi, hr, ht, ho => by
    simp at hi; subst hi
    obtain ⟨h1, _⟩ := List.pairwise_cons.1 hd
    refine ⟨⟨ht, ho⟩, h.2.imp fun b hb p hp => hp.kept hg ?_⟩
    rw [hr]
    cases hb0 : (hv b).ownBlock with
    | none => exact .inl rfl
    | some g => exact .inr fun e => h1 b hb g (by rw [← e]) hb0
  | i + 1, a :: r, p :: ps, t, q, h, hd, hi, hr, ht, ho => by
    simp at hi
    obtain ⟨h1, h2⟩ := List.pairwise_cons.1 hd
    refine ⟨⟨h.1.1, h.1.2.kept hg ?_⟩, Elems.grow_at hg h.2 h2 hi hr ht ho⟩
    rw [hr]
    cases hb0 : (hv a).ownBlock with
    | none => exact .inl rfl
    | some g => exact .inr fun e => h1 s (List.mem_of_getElem? hi) g hb0 (by rw [← e])
  | _, [], [], _, _, _, _, hi, _, _, _ => by simp at hi
  | _, [], _ :: _, _, _, h, _, _, _, _, _ => h.elim
  | _, _ :: _, [], _, _, h, _, _, _, _, _ => h.elim
/-- A cell of an owned row of headers is set. -/
theorem Own.setS {n cap g i : Nat} {s : Hdr} (h : Own encS 1 te w base (.slice (some ⟨g, 0, none⟩) n cap) n ss) (_hi : i < ss.length) : Own encS 1 te (w.setCell ⟨g, i, none⟩ (hv s)) base (.slice (some ⟨g, 0, none⟩) n cap) n (ss.set i s) := by
  refine ⟨by simpa using h.1, ?_⟩
  have hlen : ∀ xs : List Hdr, (xs.flatMap encS).length = xs.length := fun xs => by simpa using flat_len encS_len xs
  have hmap : ∀ xs : List Hdr, xs.flatMap encS = xs.map hv := fun xs => by induction xs <;> simp_all [encS]
  obtain ⟨h0, h1⟩ := h.2
  refine ⟨by rw [hlen] at h0 ⊢; simpa using h0, ?_⟩
  rcases h1 with ⟨h1, _⟩ | ⟨g', cap', cur, h1, hb, hheap, hnc, hcm, hsz, htake⟩
  · cases h1
  · cases h1
    refine .inr ⟨g, cap, cur.setIfInBounds i (hv s), rfl, hb, ?_, hnc, hcm, by simpa using hsz, ?_⟩
    · simp [World.setCell, Array.getElem?_modify, hheap]
    · rw [hmap] at htake ⊢
      rw [Array.toList_setIfInBounds, List.take_set, htake, List.map_set]
end
end Go.Proofs.YtelfnmohpjkilaaGreatDoor
