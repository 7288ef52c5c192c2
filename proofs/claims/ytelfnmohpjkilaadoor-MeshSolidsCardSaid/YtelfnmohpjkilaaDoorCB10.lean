/- Joined texts: Pcs App. -/
import Derived.RangeFuncNested
import Derived.RangeFuncBox
import Derived.Test.YtelfnmohpjkilaaDoorCB7
/- Slices of slices that the call itself makes; what a round turns; no dump is named. -/
namespace Go.Proofs.YtelfnmohpjkilaaDoor
open Go.RowKit Go.Sort

abbrev Hdr := Option Addr × Nat × Nat
def encS (s : Hdr) : List Value := [.slice s.1 s.2.1 s.2.2]
theorem encS_len (s : Hdr) : (encS s).length = 1 := rfl
theorem encS_one (s : Hdr) : ∀ u ∈ encS s, u.oneCell' = true := by
  intro u hu
  simp only [encS, List.mem_singleton] at hu
  subst hu
  rfl

/-- v is a slice of the call's own (blocks from base on) of slices of the call's own, which hold ps. -/
def Pcs {α : Type} (enc : α → List Value) (k : Nat) (e te : TypeId) (w : World) (base : Nat) (v : Value) (ps : List (List α)) : Prop :=
  ∃ ss : List Hdr, Own encS 1 te w base v ps.length ss ∧ ∀ (i : Nat) (p : List α), ps[i]? = some p → ∃ A c, ss[i]? = some (A, p.length, c) ∧ Own enc k e w base (.slice A p.length c) p.length p

section
variable {α : Type} {enc : α → List Value} {k : Nat} {e te : TypeId} {w w' : World} {base : Nat} {v : Value} {n : Nat} {xs : List α} {ps : List (List α)}
/-- A step that turns one block that is no own block of this type. -/
theorem Own.step {row : Option Nat} (h : Own enc k e w base v n xs) (hg : w.grownBy w' row) (hr : ∀ r, row = some r → r < base ∨ ∀ cs, w.heap[r]? ≠ some (.cells cs e (0, 0))) : Own enc k e w' base v n xs := by
  refine h.kept hg ?_
  cases hv : v.ownBlock with
  | none => exact .inl rfl
  | some g =>
    refine .inr fun e' => ?_
    obtain ⟨cs, hc⟩ := h.cells g hv
    rcases hr g e'.symm with hlt | hn
    · have := (h.blk g hv).1; omega
    · exact hn cs hc
/-- What is read lies on where another block turns. -/
theorem Sl.grown {row : Option Nat} {B b o : Nat} (h : Sl enc k w B (some ⟨b, o, none⟩) xs) (hg : w.grownBy w' row) (hB : B ≤ w.heap.size) (hr : some b ≠ row) : Sl enc k w' B (some ⟨b, o, none⟩) xs := by
  rcases h with ⟨_, h⟩ | ⟨b', o', ha, hb, hc⟩
  · cases h
  · cases ha
    refine .inr ⟨b, o, rfl, hb, fun i x hx j u hu => ?_⟩
    have := hc i x hx j u hu
    have hbk := hg.block b (by omega) hr
    unfold World.cell? at this ⊢
    rw [hbk]
    exact this
theorem Pcs.nil : Pcs enc k e te w base (.slice none 0 0) ([] : List (List α)) := ⟨[], Own.nil, by simp⟩
theorem Pcs.step {row : Option Nat} (h : Pcs enc k e te w base v ps) (hg : w.grownBy w' row) (hr : ∀ r, row = some r → r < base ∨ ∃ o, w.heap[r]? = some o ∧ o.isCells = false) : Pcs enc k e te w' base v ps := by
  have hr' : ∀ t : TypeId, ∀ r, row = some r → r < base ∨ ∀ cs, w.heap[r]? ≠ some (.cells cs t (0, 0)) := fun t r e' => (hr r e').imp id (fun ⟨o, ho, hc⟩ cs he => by rw [ho] at he; cases he; cases hc)
  obtain ⟨ss, ho, hp⟩ := h
  refine ⟨ss, ho.step hg (hr' te), fun i p hi => ?_⟩
  obtain ⟨A, c, hs, hO⟩ := hp i p hi
  exact ⟨A, c, hs, hO.step hg (hr' e)⟩
theorem Pcs.below {B : Nat} (h : Pcs enc k e te w base v ps) (hb : Below B w w') (hB : w.heap.size ≤ B) : Pcs enc k e te w' base v ps := by
  obtain ⟨ss, ho, hp⟩ := h
  refine ⟨ss, ho.below hb hB, fun i p hi => ?_⟩
  obtain ⟨A, c, hs, hO⟩ := hp i p hi
  exact ⟨A, c, hs, hO.below hb hB⟩
theorem Pcs.alloc (h : Pcs enc k e te w base v ps) (o : Obj) : Pcs enc k e te (w.alloc o) base v ps := h.step (World.grownBy_alloc w o none) (fun r e => by cases e)
theorem Pcs.form (h : Pcs enc k e te w base v ps) : ∃ A cap, v = .slice A ps.length cap := by
  obtain ⟨ss, ho, _⟩ := h
  exact ho.form
theorem Pcs.base_le {b' : Nat} (h : Pcs enc k e te w base v ps) (hb : b' ≤ base) : Pcs enc k e te w b' v ps := by
  obtain ⟨ss, ho, hp⟩ := h
  refine ⟨ss, ho.base_le hb, fun i p hi => ?_⟩
  obtain ⟨A, c, hs, hO⟩ := hp i p hi
  exact ⟨A, c, hs, hO.base_le hb⟩
/-- One more piece: the outer slice has turned its own block at most. -/
theorem Pcs.snoc {ss : List Hdr} {v' : Value} {p : List α} {A : Option Addr} {c : Nat} (hte : te ≠ e) (ho : Own encS 1 te w base v ps.length ss)
    (hp : ∀ (i : Nat) (p : List α), ps[i]? = some p → ∃ A c, ss[i]? = some (A, p.length, c) ∧ Own enc k e w base (.slice A p.length c) p.length p) (hx : Own enc k e w base (.slice A p.length c) p.length p)
    (hg : w.grownBy w' v.ownBlock) (ho' : Own encS 1 te w' base v' (ps.length + 1) (ss ++ [(A, p.length, c)])) : Pcs enc k e te w' base v' (ps ++ [p]) := by
  have hne : ∀ r, v.ownBlock = some r → r < base ∨ ∀ cs, w.heap[r]? ≠ some (.cells cs e (0, 0)) := fun r hr => by
    obtain ⟨cs, hc⟩ := ho.cells r hr
    refine .inr fun cs' hc' => ?_
    rw [hc] at hc'
    cases hc'
    exact hte rfl
  have hlen : ps.length = ss.length := ho.1
  refine ⟨ss ++ [(A, p.length, c)], by simpa using ho', fun i q hi => ?_⟩
  by_cases hlt : i < ps.length
  · rw [List.getElem?_append_left hlt] at hi
    obtain ⟨A', c', hs, hO⟩ := hp i q hi
    exact ⟨A', c', by rw [List.getElem?_append_left (by omega)]; exact hs, hO.step hg hne⟩
  · have hi2 : i = ps.length := by
      have := (List.getElem?_eq_some_iff.1 hi).1
      simp at this; omega
    subst hi2
    simp at hi
    subst hi
    exact ⟨A, c, by rw [hlen]; simp, hx.step hg hne⟩
end

section
variable {P : Program} {α : Type} {enc : α → List Value} {k : Nat} {e : TypeId} {w : World} {base : Nat} {v : Value} {n : Nat} {xs : List α}
/-- 'append(s, ys...)', ys lying somewhere. -/
theorem wpList_appendN {ops : Array Oper} {rest : List Oper} {o : Oper} {a : Act} {Q : Exit → Act → World → Prop} (hgd : o.guard = none) (s x : Operand) (t : TypeId)
    (ho : o.op = .call { callee := .builtin .append, args := #[s, x], argTypes := #[t, t] })
    {z : Value} {bytes : Nat} (ht : P.underlying t = some (.slice e)) (hi : (P.info? e).map (fun i => (i.zero, i.size, i.bytes)) = some (some z, k, bytes))
    (hzs : z.cells.size = k) (hk0 : 0 < k) (hk : ∀ x, (enc x).length = k) (h1 : ∀ x, ∀ u ∈ enc x, u.oneCell' = true)
    (hs : a.eval s = v) (hown : Own enc k e w base v n xs) (b c o' B : Nat) (ys : List α) (hx : a.eval x = .slice (some ⟨b, o', none⟩) ys.length c) (hsl : Sl enc k w B (some ⟨b, o', none⟩) ys) (hm : 0 < ys.length)
    (h63 : n + ys.length ≤ maxLen) (hbytes : (n + ys.length) * bytes ≤ 140737488355328) (hbase : base ≤ w.heap.size)
    (h : ∀ g cap w', Own enc k e w' base (.slice (some ⟨g, 0, none⟩) (n + ys.length) cap) (n + ys.length) (xs ++ ys) → w.grownBy w' v.ownBlock → Below base w w' → (v.ownBlock = some g ∨ g = w.heap.size) → base ≤ g → g < w'.heap.size →
      wpList P ops Q rest (a.put o.dst (.slice (some ⟨g, 0, none⟩) (n + ys.length) cap)) w') : wpList P ops Q (o :: rest) a w := by
  obtain ⟨i, hi0, hz0, hz1, hz2⟩ := info_parts hi
  have hcells : ∀ t u, (ys.flatMap enc)[t]? = some u → w.cell? ⟨b, o' + t, none⟩ = some u := by
    rcases hsl with ⟨_, h0⟩ | ⟨b2, o2, ha, _, hc⟩
    · cases h0
    · cases ha
      intro t u hu
      have ht : t < ys.length * k := by rw [← flat_len hk ys]; exact (List.getElem?_eq_some_iff.1 hu).1
      have hi : t / k < ys.length := (Nat.div_lt_iff_lt_mul hk0).2 ht
      have hj : t % k < (enc ys[t / k]).length := by rw [hk]; exact Nat.mod_lt _ hk0
      have hx : ys[t / k]? = some ys[t / k] := List.getElem?_eq_getElem hi
      have hv : (enc ys[t / k])[t % k]? = some ((enc ys[t / k])[t % k]) := List.getElem?_eq_getElem hj
      have h2 := flat_get hk ys _ _ hx _ _ hv
      rw [Nat.div_add_mod' t k, hu] at h2
      have h3 := hc _ _ hx _ _ hv
      rw [Nat.add_assoc, Nat.div_add_mod' t k, ← h2] at h3
      exact h3
  refine wpList_append_lies w hgd s x t ho base e i z k bytes ht hi0 hz0 hz1 hz2 hzs hk0 v n (xs.flatMap enc) hs hown.2 ⟨b, o', none⟩ ys.length c (ys.flatMap enc) hx (flat_len hk ys)
    (fun j u hu => by rw [add_none]; exact hcells j u hu) (fun u hu => by obtain ⟨x, _, hx⟩ := List.mem_flatMap.1 hu; exact h1 x u hx) hm h63 hbytes hbase w.heap.size rfl ?_
  intro g cap w' h2 hg hat hlt
  have hgb : base ≤ g := by
    rcases hat with hat | hat
    · exact (hown.blk g hat).1
    · omega
  refine h g cap w' ⟨by simp [hown.1], by simpa using h2⟩ hg ?_ hat hgb hlt
  exact (Below.refl base w).grown hg hbase (fun r hr => (hown.blk r hr).1)
end
/-- Many more pieces. -/
theorem Pcs.appendAll {α : Type} {enc : α → List Value} {k : Nat} {e te : TypeId} {w w' : World} {base : Nat} {v : Value} {ps qs : List (List α)} {ss rs : List Hdr} {v' : Value} (hte : te ≠ e) (ho : Own encS 1 te w base v ps.length ss) (_hrl : rs.length = qs.length)
    (hp : ∀ (i : Nat) (p : List α), ps[i]? = some p → ∃ A c, ss[i]? = some (A, p.length, c) ∧ Own enc k e w base (.slice A p.length c) p.length p)
    (hq : ∀ (i : Nat) (p : List α), qs[i]? = some p → ∃ A c, rs[i]? = some (A, p.length, c) ∧ Own enc k e w base (.slice A p.length c) p.length p)
    (hg : w.grownBy w' v.ownBlock) (ho' : Own encS 1 te w' base v' (ps.length + qs.length) (ss ++ rs)) : Pcs enc k e te w' base v' (ps ++ qs) := by
  have hne : ∀ r, v.ownBlock = some r → r < base ∨ ∀ cs, w.heap[r]? ≠ some (.cells cs e (0, 0)) := fun r hr => by
    obtain ⟨cs, hc⟩ := ho.cells r hr
    refine .inr fun cs' hc' => ?_
    rw [hc] at hc'
    cases hc'
    exact hte rfl
  have hlen : ps.length = ss.length := ho.1
  refine ⟨ss ++ rs, by simpa using ho', fun i q hi => ?_⟩
  by_cases hlt : i < ps.length
  · rw [List.getElem?_append_left hlt] at hi
    obtain ⟨A', c', hs, hO⟩ := hp i q hi
    exact ⟨A', c', by rw [List.getElem?_append_left (by omega)]; exact hs, hO.step hg hne⟩
  · rw [List.getElem?_append_right (by omega)] at hi
    obtain ⟨A', c', hs, hO⟩ := hq _ q hi
    exact ⟨A', c', by rw [List.getElem?_append_right (by omega), ← hlen]; exact hs, hO.step hg hne⟩

/-- The slice at A reads as a list of lists. -/
def LstE {α : Type} (enc : α → List Value) (k : Nat) (w : World) (B : Nat) (A : Option Addr) (ls : List (List α)) : Prop :=
  ∃ hs : List Hdr, hs.length = ls.length ∧ Sl encS 1 w B A hs ∧ ∀ (i : Nat) (p : List α), ls[i]? = some p → ∃ A' c', hs[i]? = some (A', p.length, c') ∧ Sl enc k w B A' p
section
variable {α : Type} {enc : α → List Value} {k : Nat} {w w' : World} {B B' : Nat} {A : Option Addr} {ls : List (List α)}
theorem Sl.drewN {xs : List α} (h : Sl enc k w B A xs) (n : Nat) : Sl enc k (w.drewN n) B A xs := h
theorem LstE.drewN (h : LstE enc k w B A ls) (n : Nat) : LstE enc k (w.drewN n) B A ls := h
theorem LstE.below (h : LstE enc k w B A ls) (hb : Below B w w') : LstE enc k w' B A ls := by
  obtain ⟨hs, h1, h2, h3⟩ := h
  refine ⟨hs, h1, h2.below hb, fun i p hi => ?_⟩
  obtain ⟨A', c', h4, h5⟩ := h3 i p hi
  exact ⟨A', c', h4, h5.below hb⟩
theorem LstE.more (h : LstE enc k w B A ls) (hB : B ≤ B') : LstE enc k w B' A ls := by
  obtain ⟨hs, h1, h2, h3⟩ := h
  refine ⟨hs, h1, h2.more hB, fun i p hi => ?_⟩
  obtain ⟨A', c', h4, h5⟩ := h3 i p hi
  exact ⟨A', c', h4, h5.more hB⟩
/-- Element number i. -/
theorem LstE.at (h : LstE enc k w B A ls) {i : Nat} {p : List α} (hi : ls[i]? = some p) : ∃ b o A' c', A = some ⟨b, o, none⟩ ∧ b < B ∧ w.cell? ⟨b, o + i, none⟩ = some (.slice A' p.length c') ∧ Sl enc k w B A' p := by
  obtain ⟨hs, h1, h2, h3⟩ := h
  obtain ⟨A', c', h4, h5⟩ := h3 i p hi
  obtain ⟨b, o, hA, hb, hc⟩ := h2.at h4
  have h6 := hc 0 _ rfl
  exact ⟨b, o, A', c', hA, hb, by simpa using h6, h5⟩
theorem Pcs.lst {e te : TypeId} {base : Nat} {v : Value} (hk : ∀ x, (enc x).length = k) (h : Pcs enc k e te w base v ls) : ∃ A c, v = .slice A ls.length c ∧ ls.length ≤ c ∧ LstE enc k w w.heap.size A ls := by
  obtain ⟨A, c, rfl⟩ := h.form
  obtain ⟨ss, ho, hp⟩ := h
  refine ⟨A, c, rfl, ho.place.1, ss, ho.1.symm, ho.sl encS_len (Nat.le_refl _), fun i p hi => ?_⟩
  obtain ⟨A', c', h1, h2⟩ := hp i p hi
  exact ⟨A', c', h1, h2.sl hk (Nat.le_refl _)⟩
end

/-- What a round may turn: box B0, cells from base on; the rest lies as it lay. -/
def Turns (base B0 : Nat) (W W' : World) : Prop := W'.os = W.os ∧ W'.tape = W.tape ∧ W'.output = W.output ∧ W.heap.size ≤ W'.heap.size ∧
  ∀ i o, W.heap[i]? = some o → i ≠ B0 → (i < base ∨ o.isCells = false) → W'.heap[i]? = some o
section
variable {base B0 : Nat} {A B C : World}
theorem Turns.refl (base B0 : Nat) (W : World) : Turns base B0 W W := ⟨rfl, rfl, rfl, Nat.le_refl _, fun _ _ h _ _ => h⟩
theorem Turns.trans (h : Turns base B0 A B) (k : Turns base B0 B C) : Turns base B0 A C :=
  ⟨k.1.trans h.1, k.2.1.trans h.2.1, k.2.2.1.trans h.2.2.1, Nat.le_trans h.2.2.2.1 k.2.2.2.1, fun i o ho hi hc => k.2.2.2.2 i o (h.2.2.2.2 i o ho hi hc) hi hc⟩
theorem Turns.of_below (h : Below A.heap.size A B) : Turns base B0 A B := ⟨h.os, h.tape, h.output, h.size, fun i _ ho _ _ => (h.block i (Array.getElem?_eq_some_iff.1 ho).1).trans ho⟩
theorem Turns.drew (W : World) : Turns base B0 W W.drew := Turns.refl _ _ W
theorem Turns.alloc (W : World) (o : Obj) : Turns base B0 W (W.alloc o) := Turns.of_below ((Below.refl _ W).alloc (Nat.le_refl _) o)
theorem Turns.set (W : World) (v : Value) : Turns base B0 W (W.setCell ⟨B0, 0, none⟩ v) :=
  ⟨rfl, rfl, rfl, (KeepsWalks.setCell W _ v).size, fun i _ ho hi _ => (Below.heap_setCell W ⟨B0, 0, none⟩ v i hi).trans ho⟩
theorem Turns.row {row : Option Nat} (hg : A.grownBy B row) (hr : ∀ r, row = some r → r = B0 ∨ base ≤ r ∧ ∃ cs t z, A.heap[r]? = some (.cells cs t z)) : Turns base B0 A B := by
  refine ⟨hg.os, hg.tape, hg.output, hg.size, fun i o ho hi hc => (hg.block i (Array.getElem?_eq_some_iff.1 ho).1 (fun e => ?_)).trans ho⟩
  rcases hr i e.symm with h | ⟨hb, cs, t, z, hcs⟩
  · exact hi h
  · rw [ho] at hcs
    cases hcs
    rcases hc with hc | hc
    · omega
    · cases hc
theorem Turns.keeps (h : Turns base B0 A B) (hB : B0 < base) : KeepsFrom base A B := ⟨h.2.2.2.1, fun i o hi ho hc => h.2.2.2.2 i o ho (by omega) (.inr hc)⟩
theorem Turns.cell (h : Turns base B0 A B) {p : Addr} (hp : p.block < base) (hne : p.block ≠ B0) (hA : p.block < A.heap.size) : B.cell? p = A.cell? p := by
  have hb : B.heap[p.block]? = A.heap[p.block]? := (h.2.2.2.2 p.block A.heap[p.block] (Array.getElem?_eq_getElem hA) hne (.inl hp)).trans (Array.getElem?_eq_getElem hA).symm
  unfold World.cell?
  rw [hb]
theorem Turns.grown {w0 : World} (h0 : w0.grownBy A (some B0)) (h : Turns w0.heap.size B0 A B) : w0.grownBy B (some B0) := by
  refine ⟨h.1.trans h0.os, h.2.1.trans h0.tape, h.2.2.1.trans h0.output, Nat.le_trans h0.size h.2.2.2.1, fun k hk hne => ?_⟩
  have hkA : k < A.heap.size := Nat.lt_of_lt_of_le hk h0.size
  have hA := h0.block k hk hne
  rw [← hA]
  exact (h.2.2.2.2 k A.heap[k] (Array.getElem?_eq_getElem hkA) (fun e => hne (by rw [e])) (.inl hk)).trans (Array.getElem?_eq_getElem hkA).symm
/-- A turn of what is no cells. -/
theorem grown_row {w0 : World} {row : Option Nat} (h0 : w0.grownBy A (some B0)) (hg : A.grownBy B row) (hr : ∀ r, row = some r → w0.heap.size ≤ r) : w0.grownBy B (some B0) := by
  refine ⟨hg.os.trans h0.os, hg.tape.trans h0.tape, hg.output.trans h0.output, Nat.le_trans h0.size hg.size, fun k hk hne => ?_⟩
  refine (hg.block k (Nat.lt_of_lt_of_le hk h0.size) (fun e => ?_)).trans (h0.block k hk hne)
  have := hr k e.symm
  omega
end
end Go.Proofs.YtelfnmohpjkilaaDoor
/- append(s, ys...) whatever ys is, empty or nil too; no dump is named. -/
namespace Go.Proofs.YtelfnmohpjkilaaDoor
open Go.RowKit Go.Sort
section
variable {P : Program} {α : Type} {enc : α → List Value} {k : Nat} {e : TypeId} {w : World} {base : Nat} {v : Value} {n : Nat} {xs : List α}
theorem run_append_nilsrc (base : Nat) (t ty e : TypeId) (i : TypeInfo) (size : Nat) (ht : P.underlying t = some (.slice e)) (hi : P.info? e = some i)
    (v : Value) (n c : Nat) (xs : List Value) (hown : w.ownsRow base e size v n xs) :
    (Builtin.append_ #[t, t] ty #[v, .slice none 0 c]).run P w = .ok v w := by
  rcases hown.2 with ⟨rfl, rfl⟩ | ⟨g, cap, cur, rfl, _, _, hnc, _⟩
  · simp [Builtin.append_, run_underlying ht, sizeOf, typeInfo, hi, Builtin.lenOf, Builtin.firstCells]
  · simp [Builtin.append_, run_underlying ht, sizeOf, typeInfo, hi, Builtin.lenOf, Builtin.firstCells, hnc, storeCells]
/-- The cells of a slice that reads as ys. -/
theorem Sl.cellsAll {B b o' : Nat} {ys : List α} (hk0 : 0 < k) (hk : ∀ x, (enc x).length = k) (hsl : Sl enc k w B (some ⟨b, o', none⟩) ys) : ∀ t u, (ys.flatMap enc)[t]? = some u → w.cell? ⟨b, o' + t, none⟩ = some u := by
  rcases hsl with ⟨_, h0⟩ | ⟨b2, o2, ha, _, hc⟩
  · cases h0
  · cases ha
    intro t u hu
    have ht : t < ys.length * k := by rw [← flat_len hk ys]; exact (List.getElem?_eq_some_iff.1 hu).1
    have hi : t / k < ys.length := (Nat.div_lt_iff_lt_mul hk0).2 ht
    have hj : t % k < (enc ys[t / k]).length := by rw [hk]; exact Nat.mod_lt _ hk0
    have hx : ys[t / k]? = some ys[t / k] := List.getElem?_eq_getElem hi
    have hv : (enc ys[t / k])[t % k]? = some ((enc ys[t / k])[t % k]) := List.getElem?_eq_getElem hj
    have h2 := flat_get hk ys _ _ hx _ _ hv
    rw [Nat.div_add_mod' t k, hu] at h2
    have h3 := hc _ _ hx _ _ hv
    rw [Nat.add_assoc, Nat.div_add_mod' t k, ← h2] at h3
    exact h3
/-- 'append(s, ys...)', whatever ys. -/
theorem wpList_appendS {ops : Array Oper} {rest : List Oper} {o : Oper} {a : Act} {Q : Exit → Act → World → Prop} (hgd : o.guard = none) (s x : Operand) (t : TypeId)
    (ho : o.op = .call { callee := .builtin .append, args := #[s, x], argTypes := #[t, t] })
    {z : Value} {bytes : Nat} (ht : P.underlying t = some (.slice e)) (hi : (P.info? e).map (fun i => (i.zero, i.size, i.bytes)) = some (some z, k, bytes))
    (hzs : z.cells.size = k) (hk0 : 0 < k) (hk : ∀ x, (enc x).length = k) (h1 : ∀ x, ∀ u ∈ enc x, u.oneCell' = true)
    (hs : a.eval s = v) (hown : Own enc k e w base v n xs) (A : Option Addr) (c B : Nat) (ys : List α) (hx : a.eval x = .slice A ys.length c) (hsl : Sl enc k w B A ys)
    (h63 : n + ys.length ≤ maxLen) (hbytes : (n + ys.length) * bytes ≤ 140737488355328) (hbase : base ≤ w.heap.size)
    (h : ∀ v' w', Own enc k e w' base v' (n + ys.length) (xs ++ ys) → w.grownBy w' v.ownBlock → Below base w w' → (v'.ownBlock = v.ownBlock ∨ v'.ownBlock = some w.heap.size) →
      wpList P ops Q rest (a.put o.dst v') w') : wpList P ops Q (o :: rest) a w := by
  obtain ⟨i, hi0, hz0, hz1, hz2⟩ := info_parts hi
  refine wpList_plain hgd fun K hK => ?_
  have key : ∃ v' w', (Builtin.append_ #[t, t] o.type #[v, .slice A ys.length c]).run P w = .ok v' w' ∧ w'.ownsRow base e k v' (n + ys.length) (xs.flatMap enc ++ ys.flatMap enc) ∧ w.grownBy w' v.ownBlock ∧ (v'.ownBlock = v.ownBlock ∨ v'.ownBlock = some w.heap.size) := by
    cases A with
    | none =>
      have hy : ys = [] := by
        rcases hsl with ⟨h, _⟩ | ⟨b, o', ha, _⟩
        · exact h
        · cases ha
      subst hy
      exact ⟨v, w, run_append_nilsrc base t o.type e i k ht hi0 v n c _ hown.2, by simpa using hown.2, World.grownBy.refl _ _, .inl rfl⟩
    | some ad =>
      have hsl' : ∃ b o', ad = ⟨b, o', none⟩ := by
        rcases hsl with ⟨_, h⟩ | ⟨b, o', ha, _⟩
        · cases h
        · exact ⟨b, o', by injection ha⟩
      obtain ⟨b, o', rfl⟩ := hsl'
      obtain ⟨v', w', hr, h2, h3, _, h5⟩ := run_append_own_at (P := P) (w := w) base t o.type e i z k bytes ht hi0 hz0 hz1 hz2 hzs hk0 v n (xs.flatMap enc) hown.2 ⟨b, o', none⟩ ys.length c (ys.flatMap enc) (flat_len hk ys)
        (fun j u hu => by rw [add_none]; exact hsl.cellsAll hk0 hk j u hu) (fun u hu => by obtain ⟨x, _, hx⟩ := List.mem_flatMap.1 hu; exact h1 x u hx) h63 hbytes hbase
      exact ⟨v', w', hr, h2, h3, h5⟩
  obtain ⟨v', w', hr, h2, h3, h5⟩ := key
  unfold Oper.wp
  simp only [execOp, ho, resolve, invoke, builtin, Sem.run_bind, Sem.run_pure, Result.andThen_ok, List.map_toArray, List.map_cons, List.map_nil, hs, hx, hr]
  exact hK _ _ (h v' w' ⟨by simp [hown.1], by simpa using h2⟩ h3 ((Below.refl base w).grown h3 hbase (fun r hr => (hown.blk r hr).1)) h5)
end
end Go.Proofs.YtelfnmohpjkilaaDoor
