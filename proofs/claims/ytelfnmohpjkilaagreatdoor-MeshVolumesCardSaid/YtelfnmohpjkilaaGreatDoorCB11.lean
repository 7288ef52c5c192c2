/- Joined texts: Pcs App PcsD SetW. -/
import Derived.RangeFuncNested
import Derived.RangeFuncBox
import Derived.Test.YtelfnmohpjkilaaGreatDoorCB8
/- Slices of slices that the call itself makes; what a round turns; no dump is named. -/
namespace Go.Proofs.YtelfnmohpjkilaaGreatDoor
open Go.RowKit Go.Sort

abbrev Hdr := Option Addr × Nat × Nat
def encS (s : Hdr) : List Value := [.slice s.1 s.2.1 s.2.2]
theorem encS_len (s : Hdr) : (encS s).length = 1 := rfl
theorem encS_one (s : Hdr) : ∀ u ∈ encS s, u.oneCell' = true := by
  intro u hu
  simp only [encS, List.mem_singleton] at hu
  subst hu
  rfl

/-- v is a slice of the call's own (blocks from base on) of slices of the call's own, which hold ps. -/
def Pcs {α : Type} (enc : α → List Value) (k : Nat) (e te : TypeId) (w : World) (base : Nat) (v : Value) (ps : List (List α)) : Prop :=
  ∃ ss : List Hdr, Own encS 1 te w base v ps.length ss ∧ ∀ (i : Nat) (p : List α), ps[i]? = some p → ∃ A c, ss[i]? = some (A, p.length, c) ∧ Own enc k e w base (.slice A p.length c) p.length p

section
variable {α : Type} {enc : α → List Value} {k : Nat} {e te : TypeId} {w w' : World} {base : Nat} {v : Value} {n : Nat} {xs : List α} {ps : List (List α)}
/-- A step that turns one block that is no own block of this type. -/
theorem Own.step {row : Option Nat} (h : Own enc k e w base v n xs) (hg : w.grownBy w' row) (hr : ∀ r, row = some r → r < base ∨ ∀ cs, w.heap[r]? ≠ some (.cells cs e (0, 0))) : Own enc k e w' base v n xs := by
  refine h.kept hg ?_
  cases hv : v.ownBlock with
  | none => exact .inl rfl
  | some g =>
    refine .inr fun e' => ?_
    obtain ⟨cs, hc⟩ := h.cells g hv
    rcases hr g e'.symm with hlt | hn
    · have := (h.blk g hv).1; omega
    · exact hn cs hc
/-- What is read lies on where another block turns. -/
theorem Sl.grown {row : Option Nat} {B b o : Nat} (h : Sl enc k w B (some ⟨b, o, none⟩) xs) (hg : w.grownBy w' row) (hB : B ≤ w.heap.size) (hr : some b ≠ row) : Sl enc k w' B (some ⟨b, o, none⟩) xs := by
  rcases h with ⟨_, h⟩ | ⟨b', o', ha, hb, hc⟩
  · cases h
  · cases ha
    refine .inr ⟨b, o, rfl, hb, fun i x hx j u hu => ?_⟩
    have := hc i x hx j u hu
    have hbk := hg.block b (by omega) hr
    unfold World.cell? at this ⊢
    rw [hbk]
    exact this
theorem Pcs.nil : Pcs enc k e te w base (.slice none 0 0) ([] : List (List α)) := ⟨[], Own.nil, by simp⟩
theorem Pcs.step {row : Option Nat} (h : Pcs enc k e te w base v ps) (hg : w.grownBy w' row) (hr : ∀ r, row = some r → r < base ∨ ∃ o, w.heap[r]? = some o ∧ o.isCells = false) : Pcs enc k e te w' base v ps := by
  have hr' : ∀ t : TypeId, ∀ r, row = some r → r < base ∨ ∀ cs, w.heap[r]? ≠ some (.cells cs t (0, 0)) := fun t r e' => (hr r e').imp id (fun ⟨o, ho, hc⟩ cs he => by rw [ho] at he; cases he; cases hc)
  obtain ⟨ss, ho, hp⟩ := h
  refine ⟨ss, ho.step hg (hr' te), fun i p hi => ?_⟩
  obtain ⟨A, c, hs, hO⟩ := hp i p hi
  exact ⟨A, c, hs, hO.step hg (hr' e)⟩
theorem Pcs.below {B : Nat} (h : Pcs enc k e te w base v ps) (hb : Below B w w') (hB : w.heap.size ≤ B) : Pcs enc k e te w' base v ps := by
  obtain ⟨ss, ho, hp⟩ := h
  refine ⟨ss, ho.below hb hB, fun i p hi => ?_⟩
  obtain ⟨A, c, hs, hO⟩ := hp i p hi
  exact ⟨A, c, hs, hO.below hb hB⟩
theorem Pcs.alloc (h : Pcs enc k e te w base v ps) (o : Obj) : Pcs enc k e te (w.alloc o) base v ps := h.step (World.grownBy_alloc w o none) (fun r e => by cases e)
theorem Pcs.form (h : Pcs enc k e te w base v ps) : ∃ A cap, v = .slice A ps.length cap := by
  obtain ⟨ss, ho, _⟩ := h
  exact ho.form
theorem Pcs.base_le {b' : Nat} (h : Pcs enc k e te w base v ps) (hb : b' ≤ base) : Pcs enc k e te w b' v ps := by
  obtain ⟨ss, ho, hp⟩ := h
  refine ⟨ss, ho.base_le hb, fun i p hi => ?_⟩
  obtain ⟨A, c, hs, hO⟩ := hp i p hi
  exact ⟨A, c, hs, hO.base_le hb⟩
/-- One more piece: the outer slice has turned its own block at most. -/
theorem Pcs.snoc {ss : List Hdr} {v' : Value} {p : List α} {A : Option Addr} {c : Nat} (hte : te ≠ e) (ho : Own encS 1 te w base v ps.length ss)
    (hp : ∀ (i : Nat) (p : List α), ps[i]? = some p → ∃ A c, ss[i]? = some (A, p.length, c) ∧ Own enc k e w base (.slice A p.length c) p.length p) (hx : Own enc k e w base (.slice A p.length c) p.length p)
    (hg : w.grownBy w' v.ownBlock) (ho' : Own encS 1 te w' base v' (ps.length + 1) (ss ++ [(A, p.length, c)])) : Pcs enc k e te w' base v' (ps ++ [p]) := by
  have hne : ∀ r, v.ownBlock = some r → r < base ∨ ∀ cs, w.heap[r]? ≠ some (.cells cs e (0, 0)) := fun r hr => by
    obtain ⟨cs, hc⟩ := ho.cells r hr
    refine .inr fun cs' hc' => ?_
    rw [hc] at hc'
    cases hc'
    exact hte rfl
  have hlen : ps.length = ss.length := ho.1
  refine ⟨ss ++ [(A, p.length, c)], by simpa using ho', fun i q hi => ?_⟩
  by_cases hlt : i < ps.length
  · rw [List.getElem?_append_left hlt] at hi
    obtain ⟨A', c', hs, hO⟩ := hp i q hi
    exact ⟨A', c', by rw [List.getElem?_append_left (by omega)]; exact hs, hO.step hg hne⟩
  · have hi2 : i = ps.length := by
      have := (List.getElem?_eq_some_iff.1 hi).1
      simp at this; omega
    subst hi2
    simp at hi
    subst hi
    exact ⟨A, c, by rw [hlen]; simp, hx.step hg hne⟩
end

section
variable {P : Program} {α : Type} {enc : α → List Value} {k : Nat} {e : TypeId} {w : World} {base : Nat} {v : Value} {n : Nat} {xs : List α}
/-- 'append(s, ys...)', ys lying somewhere. -/
theorem wpList_appendN {ops : Array Oper} {rest : List Oper} {o : Oper} {a : Act} {Q : Exit → Act → World → Prop} (hgd : o.guard = none) (s x : Operand) (t : TypeId)
    (ho : o.op = .call { callee := .builtin .append, args := #[s, x], argTypes := #[t, t] })
    {z : Value} {bytes : Nat} (ht : P.underlying t = some (.slice e)) (hi : (P.info? e).map (fun i => (i.zero, i.size, i.bytes)) = some (some z, k, bytes))
    (hzs : z.cells.size = k) (hk0 : 0 < k) (hk : ∀ x, (enc x).length = k) (h1 : ∀ x, ∀ u ∈ enc x, u.oneCell' = true)
    (hs : a.eval s = v) (hown : Own enc k e w base v n xs) (b c o' B : Nat) (ys : List α) (hx : a.eval x = .slice (some ⟨b, o', none⟩) ys.length c) (hsl : Sl enc k w B (some ⟨b, o', none⟩) ys) (hm : 0 < ys.length)
    (h63 : n + ys.length ≤ maxLen) (hbytes : (n + ys.length) * bytes ≤ 140737488355328) (hbase : base ≤ w.heap.size)
    (h : ∀ g cap w', Own enc k e w' base (.slice (some ⟨g, 0, none⟩) (n + ys.length) cap) (n + ys.length) (xs ++ ys) → w.grownBy w' v.ownBlock → Below base w w' → (v.ownBlock = some g ∨ g = w.heap.size) → base ≤ g → g < w'.heap.size →
      wpList P ops Q rest (a.put o.dst (.slice (some ⟨g, 0, none⟩) (n + ys.length) cap)) w') : wpList P ops Q (o :: rest) a w := by
  obtain ⟨i, hi0, hz0, hz1, hz2⟩ := info_parts hi
  have hcells : ∀ t u, (ys.flatMap enc)[t]? = some u → w.cell? ⟨b, o' + t, none⟩ = some u := by
    rcases hsl with ⟨_, h0⟩ | ⟨b2, o2, ha, _, hc⟩
    · cases h0
    · cases ha
      intro t u hu
      have ht : t < ys.length * k := by rw [← flat_len hk ys]; exact (List.getElem?_eq_some_iff.1 hu).1
      have hi : t / k < ys.length := (Nat.div_lt_iff_lt_mul hk0).2 ht
      have hj : t % k < (enc ys[t / k]).length := by rw [hk]; exact Nat.mod_lt _ hk0
      have hx : ys[t / k]? = some ys[t / k] := List.getElem?_eq_getElem hi
      have hv : (enc ys[t / k])[t % k]? = some ((enc ys[t / k])[t % k]) := List.getElem?_eq_getElem hj
      have h2 := flat_get hk ys _ _ hx _ _ hv
      rw [Nat.div_add_mod' t k, hu] at h2
      have h3 := hc _ _ hx _ _ hv
      rw [Nat.add_assoc, Nat.div_add_mod' t k, ← h2] at h3
      exact h3
  refine wpList_append_lies w hgd s x t ho base e i z k bytes ht hi0 hz0 hz1 hz2 hzs hk0 v n (xs.flatMap enc) hs hown.2 ⟨b, o', none⟩ ys.length c (ys.flatMap enc) hx (flat_len hk ys)
    (fun j u hu => by rw [add_none]; exact hcells j u hu) (fun u hu => by obtain ⟨x, _, hx⟩ := List.mem_flatMap.1 hu; exact h1 x u hx) hm h63 hbytes hbase w.heap.size rfl ?_
  intro g cap w' h2 hg hat hlt
  have hgb : base ≤ g := by
    rcases hat with hat | hat
    · exact (hown.blk g hat).1
    · omega
  refine h g cap w' ⟨by simp [hown.1], by simpa using h2⟩ hg ?_ hat hgb hlt
  exact (Below.refl base w).grown hg hbase (fun r hr => (hown.blk r hr).1)
end
/-- Many more pieces. -/
theorem Pcs.appendAll {α : Type} {enc : α → List Value} {k : Nat} {e te : TypeId} {w w' : World} {base : Nat} {v : Value} {ps qs : List (List α)} {ss rs : List Hdr} {v' : Value} (hte : te ≠ e) (ho : Own encS 1 te w base v ps.length ss) (_hrl : rs.length = qs.length)
    (hp : ∀ (i : Nat) (p : List α), ps[i]? = some p → ∃ A c, ss[i]? = some (A, p.length, c) ∧ Own enc k e w base (.slice A p.length c) p.length p)
    (hq : ∀ (i : Nat) (p : List α), qs[i]? = some p → ∃ A c, rs[i]? = some (A, p.length, c) ∧ Own enc k e w base (.slice A p.length c) p.length p)
    (hg : w.grownBy w' v.ownBlock) (ho' : Own encS 1 te w' base v' (ps.length + qs.length) (ss ++ rs)) : Pcs enc k e te w' base v' (ps ++ qs) := by
  have hne : ∀ r, v.ownBlock = some r → r < base ∨ ∀ cs, w.heap[r]? ≠ some (.cells cs e (0, 0)) := fun r hr => by
    obtain ⟨cs, hc⟩ := ho.cells r hr
    refine .inr fun cs' hc' => ?_
    rw [hc] at hc'
    cases hc'
    exact hte rfl
  have hlen : ps.length = ss.length := ho.1
  refine ⟨ss ++ rs, by simpa using ho', fun i q hi => ?_⟩
  by_cases hlt : i < ps.length
  · rw [List.getElem?_append_left hlt] at hi
    obtain ⟨A', c', hs, hO⟩ := hp i q hi
    exact ⟨A', c', by rw [List.getElem?_append_left (by omega)]; exact hs, hO.step hg hne⟩
  · rw [List.getElem?_append_right (by omega)] at hi
    obtain ⟨A', c', hs, hO⟩ := hq _ q hi
    exact ⟨A', c', by rw [List.getElem?_append_right (by omega), ← hlen]; exact hs, hO.step hg hne⟩

/-- The slice at A reads as a list of lists. -/
def LstE {α : Type} (enc : α → List Value) (k : Nat) (w : World) (B : Nat) (A : Option Addr) (ls : List (List α)) : Prop :=
  ∃ hs : List Hdr, hs.length = ls.length ∧ Sl encS 1 w B A hs ∧ ∀ (i : Nat) (p : List α), ls[i]? = some p → ∃ A' c', hs[i]? = some (A', p.length, c') ∧ Sl enc k w B A' p
section
variable {α : Type} {enc : α → List Value} {k : Nat} {w w' : World} {B B' : Nat} {A : Option Addr} {ls : List (List α)}
theorem Sl.drewN {xs : List α} (h : Sl enc k w B A xs) (n : Nat) : Sl enc k (w.drewN n) B A xs := h
theorem LstE.drewN (h : LstE enc k w B A ls) (n : Nat) : LstE enc k (w.drewN n) B A ls := h
theorem LstE.below (h : LstE enc k w B A ls) (hb : Below B w w') : LstE enc k w' B A ls := by
  obtain ⟨hs, h1, h2, h3⟩ := h
  refine ⟨hs, h1, h2.below hb, fun i p hi => ?_⟩
  obtain ⟨A', c', h4, h5⟩ := h3 i p hi
  exact ⟨A', c', h4, h5.below hb⟩
theorem LstE.more (h : LstE enc k w B A ls) (hB : B ≤ B') : LstE enc k w B' A ls := by
  obtain ⟨hs, h1, h2, h3⟩ := h
  refine ⟨hs, h1, h2.more hB, fun i p hi => ?_⟩
  obtain ⟨A', c', h4, h5⟩ := h3 i p hi
  exact ⟨A', c', h4, h5.more hB⟩
/-- Element number i. -/
theorem LstE.at (h : LstE enc k w B A ls) {i : Nat} {p : List α} (hi : ls[i]? = some p) : ∃ b o A' c', A = some ⟨b, o, none⟩ ∧ b < B ∧ w.cell? ⟨b, o + i, none⟩ = some (.slice A' p.length c') ∧ Sl enc k w B A' p := by
  obtain ⟨hs, h1, h2, h3⟩ := h
  obtain ⟨A', c', h4, h5⟩ := h3 i p hi
  obtain ⟨b, o, hA, hb, hc⟩ := h2.at h4
  have h6 := hc 0 _ rfl
  exact ⟨b, o, A', c', hA, hb, by simpa using h6, h5⟩
theorem Pcs.lst {e te : TypeId} {base : Nat} {v : Value} (hk : ∀ x, (enc x).length = k) (h : Pcs enc k e te w base v ls) : ∃ A c, v = .slice A ls.length c ∧ ls.length ≤ c ∧ LstE enc k w w.heap.size A ls := by
  obtain ⟨A, c, rfl⟩ := h.form
  obtain ⟨ss, ho, hp⟩ := h
  refine ⟨A, c, rfl, ho.place.1, ss, ho.1.symm, ho.sl encS_len (Nat.le_refl _), fun i p hi => ?_⟩
  obtain ⟨A', c', h1, h2⟩ := hp i p hi
  exact ⟨A', c', h1, h2.sl hk (Nat.le_refl _)⟩
end

/-- What a round may turn: box B0, cells from base on; the rest lies as it lay. -/
def Turns (base B0 : Nat) (W W' : World) : Prop := W'.os = W.os ∧ W'.tape = W.tape ∧ W'.output = W.output ∧ W.heap.size ≤ W'.heap.size ∧
  ∀ i o, W.heap[i]? = some o → i ≠ B0 → (i < base ∨ o.isCells = false) → W'.heap[i]? = some o
section
variable {base B0 : Nat} {A B C : World}
theorem Turns.refl (base B0 : Nat) (W : World) : Turns base B0 W W := ⟨rfl, rfl, rfl, Nat.le_refl _, fun _ _ h _ _ => h⟩
theorem Turns.trans (h : Turns base B0 A B) (k : Turns base B0 B C) : Turns base B0 A C :=
  ⟨k.1.trans h.1, k.2.1.trans h.2.1, k.2.2.1.trans h.2.2.1, Nat.le_trans h.2.2.2.1 k.2.2.2.1, fun i o ho hi hc => k.2.2.2.2 i o (h.2.2.2.2 i o ho hi hc) hi hc⟩
theorem Turns.of_below (h : Below A.heap.size A B) : Turns base B0 A B := ⟨h.os, h.tape, h.output, h.size, fun i _ ho _ _ => (h.block i (Array.getElem?_eq_some_iff.1 ho).1).trans ho⟩
theorem Turns.drew (W : World) : Turns base B0 W W.drew := Turns.refl _ _ W
theorem Turns.alloc (W : World) (o : Obj) : Turns base B0 W (W.alloc o) := Turns.of_below ((Below.refl _ W).alloc (Nat.le_refl _) o)
theorem Turns.set (W : World) (v : Value) : Turns base B0 W (W.setCell ⟨B0, 0, none⟩ v) :=
  ⟨rfl, rfl, rfl, (KeepsWalks.setCell W _ v).size, fun i _ ho hi _ => (Below.heap_setCell W ⟨B0, 0, none⟩ v i hi).trans ho⟩
theorem Turns.row {row : Option Nat} (hg : A.grownBy B row) (hr : ∀ r, row = some r → r = B0 ∨ base ≤ r ∧ ∃ cs t z, A.heap[r]? = some (.cells cs t z)) : Turns base B0 A B := by
  refine ⟨hg.os, hg.tape, hg.output, hg.size, fun i o ho hi hc => (hg.block i (Array.getElem?_eq_some_iff.1 ho).1 (fun e => ?_)).trans ho⟩
  rcases hr i e.symm with h | ⟨hb, cs, t, z, hcs⟩
  · exact hi h
  · rw [ho] at hcs
    cases hcs
    rcases hc with hc | hc
    · omega
    · cases hc
theorem Turns.keeps (h : Turns base B0 A B) (hB : B0 < base) : KeepsFrom base A B := ⟨h.2.2.2.1, fun i o hi ho hc => h.2.2.2.2 i o ho (by omega) (.inr hc)⟩
theorem Turns.cell (h : Turns base B0 A B) {p : Addr} (hp : p.block < base) (hne : p.block ≠ B0) (hA : p.block < A.heap.size) : B.cell? p = A.cell? p := by
  have hb : B.heap[p.block]? = A.heap[p.block]? := (h.2.2.2.2 p.block A.heap[p.block] (Array.getElem?_eq_getElem hA) hne (.inl hp)).trans (Array.getElem?_eq_getElem hA).symm
  unfold World.cell?
  rw [hb]
theorem Turns.grown {w0 : World} (h0 : w0.grownBy A (some B0)) (h : Turns w0.heap.size B0 A B) : w0.grownBy B (some B0) := by
  refine ⟨h.1.trans h0.os, h.2.1.trans h0.tape, h.2.2.1.trans h0.output, Nat.le_trans h0.size h.2.2.2.1, fun k hk hne => ?_⟩
  have hkA : k < A.heap.size := Nat.lt_of_lt_of_le hk h0.size
  have hA := h0.block k hk hne
  rw [← hA]
  exact (h.2.2.2.2 k A.heap[k] (Array.getElem?_eq_getElem hkA) (fun e => hne (by rw [e])) (.inl hk)).trans (Array.getElem?_eq_getElem hkA).symm
/-- A turn of what is no cells. -/
theorem grown_row {w0 : World} {row : Option Nat} (h0 : w0.grownBy A (some B0)) (hg : A.grownBy B row) (hr : ∀ r, row = some r → w0.heap.size ≤ r) : w0.grownBy B (some B0) := by
  refine ⟨hg.os.trans h0.os, hg.tape.trans h0.tape, hg.output.trans h0.output, Nat.le_trans h0.size hg.size, fun k hk hne => ?_⟩
  refine (hg.block k (Nat.lt_of_lt_of_le hk h0.size) (fun e => ?_)).trans (h0.block k hk hne)
  have := hr k e.symm
  omega
end
end Go.Proofs.YtelfnmohpjkilaaGreatDoor
/- append(s, ys...) whatever ys is, empty or nil too; no dump is named. -/
namespace Go.Proofs.YtelfnmohpjkilaaGreatDoor
open Go.RowKit Go.Sort
section
variable {P : Program} {α : Type} {enc : α → List Value} {k : Nat} {e : TypeId} {w : World} {base : Nat} {v : Value} {n : Nat} {xs : List α}
theorem run_append_nilsrc (base : Nat) (t ty e : TypeId) (i : TypeInfo) (size : Nat) (ht : P.underlying t = some (.slice e)) (hi : P.info? e = some i)
    (v : Value) (n c : Nat) (xs : List Value) (hown : w.ownsRow base e size v n xs) :
    (Builtin.append_ #[t, t] ty #[v, .slice none 0 c]).run P w = .ok v w := by
  rcases hown.2 with ⟨rfl, rfl⟩ | ⟨g, cap, cur, rfl, _, _, hnc, _⟩
  · simp [Builtin.append_, run_underlying ht, sizeOf, typeInfo, hi, Builtin.lenOf, Builtin.firstCells]
  · simp [Builtin.append_, run_underlying ht, sizeOf, typeInfo, hi, Builtin.lenOf, Builtin.firstCells, hnc, storeCells]
/-- The cells of a slice that reads as ys. -/
theorem Sl.cellsAll {B b o' : Nat} {ys : List α} (hk0 : 0 < k) (hk : ∀ x, (enc x).length = k) (hsl : Sl enc k w B (some ⟨b, o', none⟩) ys) : ∀ t u, (ys.flatMap enc)[t]? = some u → w.cell? ⟨b, o' + t, none⟩ = some u := by
  rcases hsl with ⟨_, h0⟩ | ⟨b2, o2, ha, _, hc⟩
  · cases h0
  · cases ha
    intro t u hu
    have ht : t < ys.length * k := by rw [← flat_len hk ys]; exact (List.getElem?_eq_some_iff.1 hu).1
    have hi : t / k < ys.length := (Nat.div_lt_iff_lt_mul hk0).2 ht
    have hj : t % k < (enc ys[t / k]).length := by rw [hk]; exact Nat.mod_lt _ hk0
    have hx : ys[t / k]? = some ys[t / k] := List.getElem?_eq_getElem hi
    have hv : (enc ys[t / k])[t % k]? = some ((enc ys[t / k])[t % k]) := List.getElem?_eq_getElem hj
    have h2 := flat_get hk ys _ _ hx _ _ hv
    rw [Nat.div_add_mod' t k, hu] at h2
    have h3 := hc _ _ hx _ _ hv
    rw [Nat.add_assoc, Nat.div_add_mod' t k, ← h2] at h3
    exact h3
/-- 'append(s, ys...)', whatever ys. -/
theorem wpList_appendS {ops : Array Oper} {rest : List Oper} {o : Oper} {a : Act} {Q : Exit → Act → World → Prop} (hgd : o.guard = none) (s x : Operand) (t : TypeId)
    (ho : o.op = .call { callee := .builtin .append, args := #[s, x], argTypes := #[t, t] })
    {z : Value} {bytes : Nat} (ht : P.underlying t = some (.slice e)) (hi : (P.info? e).map (fun i => (i.zero, i.size, i.bytes)) = some (some z, k, bytes))
    (hzs : z.cells.size = k) (hk0 : 0 < k) (hk : ∀ x, (enc x).length = k) (h1 : ∀ x, ∀ u ∈ enc x, u.oneCell' = true)
    (hs : a.eval s = v) (hown : Own enc k e w base v n xs) (A : Option Addr) (c B : Nat) (ys : List α) (hx : a.eval x = .slice A ys.length c) (hsl : Sl enc k w B A ys)
    (h63 : n + ys.length ≤ maxLen) (hbytes : (n + ys.length) * bytes ≤ 140737488355328) (hbase : base ≤ w.heap.size)
    (h : ∀ v' w', Own enc k e w' base v' (n + ys.length) (xs ++ ys) → w.grownBy w' v.ownBlock → Below base w w' → (v'.ownBlock = v.ownBlock ∨ v'.ownBlock = some w.heap.size) →
      wpList P ops Q rest (a.put o.dst v') w') : wpList P ops Q (o :: rest) a w := by
  obtain ⟨i, hi0, hz0, hz1, hz2⟩ := info_parts hi
  refine wpList_plain hgd fun K hK => ?_
  have key : ∃ v' w', (Builtin.append_ #[t, t] o.type #[v, .slice A ys.length c]).run P w = .ok v' w' ∧ w'.ownsRow base e k v' (n + ys.length) (xs.flatMap enc ++ ys.flatMap enc) ∧ w.grownBy w' v.ownBlock ∧ (v'.ownBlock = v.ownBlock ∨ v'.ownBlock = some w.heap.size) := by
    cases A with
    | none =>
      have hy : ys = [] := by
        rcases hsl with ⟨h, _⟩ | ⟨b, o', ha, _⟩
        · exact h
        · cases ha
      subst hy
      exact ⟨v, w, run_append_nilsrc base t o.type e i k ht hi0 v n c _ hown.2, by simpa using hown.2, World.grownBy.refl _ _, .inl rfl⟩
    | some ad =>
      have hsl' : ∃ b o', ad = ⟨b, o', none⟩ := by
        rcases hsl with ⟨_, h⟩ | ⟨b, o', ha, _⟩
        · cases h
        · exact ⟨b, o', by injection ha⟩
      obtain ⟨b, o', rfl⟩ := hsl'
      obtain ⟨v', w', hr, h2, h3, _, h5⟩ := run_append_own_at (P := P) (w := w) base t o.type e i z k bytes ht hi0 hz0 hz1 hz2 hzs hk0 v n (xs.flatMap enc) hown.2 ⟨b, o', none⟩ ys.length c (ys.flatMap enc) (flat_len hk ys)
        (fun j u hu => by rw [add_none]; exact hsl.cellsAll hk0 hk j u hu) (fun u hu => by obtain ⟨x, _, hx⟩ := List.mem_flatMap.1 hu; exact h1 x u hx) h63 hbytes hbase
      exact ⟨v', w', hr, h2, h3, h5⟩
  obtain ⟨v', w', hr, h2, h3, h5⟩ := key
  unfold Oper.wp
  simp only [execOp, ho, resolve, invoke, builtin, Sem.run_bind, Sem.run_pure, Result.andThen_ok, List.map_toArray, List.map_cons, List.map_nil, hs, hx, hr]
  exact hK _ _ (h v' w' ⟨by simp [hown.1], by simpa using h2⟩ h3 ((Below.refl base w).grown h3 hbase (fun r hr => (hown.blk r hr).1)) h5)
end
end Go.Proofs.YtelfnmohpjkilaaGreatDoor
/- Slices of slices of the call's own that share no block; no dump is named. -/
namespace Go.Proofs.YtelfnmohpjkilaaGreatDoor
open Go.RowKit Go.Sort
abbrev hv (s : Hdr) : Value := .slice s.1 s.2.1 s.2.2
/-- Headers ss hold ps, each in blocks of the call's own. -/
def Elems {α : Type} (enc : α → List Value) (k : Nat) (e : TypeId) (w : World) (base : Nat) : List Hdr → List (List α) → Prop
  | [], [] => True
  | s :: ss, p :: ps => (s.2.1 = p.length ∧ Own enc k e w base (hv s) p.length p) ∧ Elems enc k e w base ss ps
  | _, _ => False
def Apart2 (s t : Hdr) : Prop := ∀ g, (hv s).ownBlock = some g → (hv t).ownBlock ≠ some g
section
variable {α : Type} {enc : α → List Value} {k : Nat} {e te : TypeId} {w w' : World} {base : Nat} {v : Value} {ss rs : List Hdr} {ps qs : List (List α)}
theorem Elems.len : ∀ {ss : List Hdr} {ps : List (List α)}, Elems enc k e w base ss ps → ss.length = ps.length
  | [], [], _ => rfl
  | _ :: _, _ :: _, h => by simp [Elems.len h.2]
  | [], _ :: _, h => h.elim
  | _ :: _, [], h => h.elim
theorem Elems.imp {enc : α → List Value} {w w' : World} {base base' : Nat} : ∀ {ss : List Hdr} {ps : List (List α)}, (∀ s ∈ ss, ∀ p, Own enc k e w base (hv s) p.length p → Own enc k e w' base' (hv s) p.length p) → Elems enc k e w base ss ps → Elems enc k e w' base' ss ps
  | [], [], _, _ => trivial
  | s :: _, _ :: _, f, h => ⟨⟨h.1.1, f s (by simp) _ h.1.2⟩, Elems.imp (fun t ht => f t (by simp [ht])) h.2⟩
  | [], _ :: _, _, h => h.elim
  | _ :: _, [], _, h => h.elim
theorem Elems.append : ∀ {ss : List Hdr} {ps : List (List α)}, Elems enc k e w base ss ps → Elems enc k e w base rs qs → Elems enc k e w base (ss ++ rs) (ps ++ qs)
  | [], [], _, h => h
  | _ :: _, _ :: _, h, h' => ⟨h.1, Elems.append h.2 h'⟩
  | [], _ :: _, h, _ => h.elim
  | _ :: _, [], h, _ => h.elim
theorem Elems.take : ∀ (i : Nat) {ss : List Hdr} {ps : List (List α)}, Elems enc k e w base ss ps → Elems enc k e w base (ss.take i) (ps.take i)
  | 0, _, _, _ => trivial
  | _ + 1, [], [], _ => trivial
  | i + 1, _ :: _, _ :: _, h => ⟨h.1, Elems.take i h.2⟩
  | _ + 1, [], _ :: _, h => h.elim
  | _ + 1, _ :: _, [], h => h.elim
theorem Elems.drop : ∀ (i : Nat) {ss : List Hdr} {ps : List (List α)}, Elems enc k e w base ss ps → Elems enc k e w base (ss.drop i) (ps.drop i)
  | 0, _, _, h => h
  | _ + 1, [], [], _ => trivial
  | i + 1, _ :: _, _ :: _, h => Elems.drop i h.2
  | _ + 1, [], _ :: _, h => h.elim
  | _ + 1, _ :: _, [], h => h.elim
theorem Elems.at : ∀ {i : Nat} {ss : List Hdr} {ps : List (List α)} {p : List α}, Elems enc k e w base ss ps → ps[i]? = some p → ∃ A c, ss[i]? = some (A, p.length, c) ∧ Own enc k e w base (.slice A p.length c) p.length p
  | 0, s :: _, _ :: _, p, h, hi => by
    simp at hi; subst hi
    obtain ⟨A, n, c⟩ := s
    have h1 : n = _ := h.1.1
    subst h1
    exact ⟨A, c, rfl, h.1.2⟩
  | i + 1, _ :: _, _ :: _, p, h, hi => Elems.at (i := i) h.2 (by simpa using hi)
  | _, [], [], _, _, hi => by simp at hi
  | _, [], _ :: _, _, h, _ => h.elim
  | _, _ :: _, [], _, h, _ => h.elim
theorem Elems.set {s : Hdr} {p : List α} (hs : s.2.1 = p.length) (ho : Own enc k e w base (hv s) p.length p) : ∀ {i : Nat} {ss : List Hdr} {ps : List (List α)}, Elems enc k e w base ss ps → Elems enc k e w base (ss.set i s) (ps.set i p)
  | 0, _ :: _, _ :: _, h => ⟨⟨hs, ho⟩, h.2⟩
  | i + 1, _ :: _, _ :: _, h => ⟨h.1, Elems.set hs ho (i := i) h.2⟩
  | _, [], [], _ => trivial
  | _, [], _ :: _, h => h.elim
  | _, _ :: _, [], h => h.elim

/-- v is a slice of the call's own of slices of the call's own that share no block. -/
def PcsD {α : Type} (enc : α → List Value) (k : Nat) (e te : TypeId) (w : World) (base : Nat) (v : Value) (ps : List (List α)) : Prop :=
  ∃ ss : List Hdr, Own encS 1 te w base v ps.length ss ∧ Elems enc k e w base ss ps ∧ ss.Pairwise Apart2
theorem PcsD.nil : PcsD enc k e te w base (.slice none 0 0) ([] : List (List α)) := ⟨[], Own.nil, trivial, .nil⟩
theorem PcsD.pcs (h : PcsD enc k e te w base v ps) : Pcs enc k e te w base v ps := by
  obtain ⟨ss, ho, he, _⟩ := h
  exact ⟨ss, ho, fun i p hi => he.at hi⟩
theorem PcsD.form (h : PcsD enc k e te w base v ps) : ∃ A cap, v = .slice A ps.length cap := h.pcs.form
theorem PcsD.below {B : Nat} (h : PcsD enc k e te w base v ps) (hb : Below B w w') (hB : w.heap.size ≤ B) : PcsD enc k e te w' base v ps := by
  obtain ⟨ss, ho, he, hd⟩ := h
  exact ⟨ss, ho.below hb hB, he.imp (fun _ _ _ h => h.below hb hB), hd⟩
theorem PcsD.alloc (h : PcsD enc k e te w base v ps) (o : Obj) : PcsD enc k e te (w.alloc o) base v ps := by
  obtain ⟨ss, ho, he, hd⟩ := h
  exact ⟨ss, ho.alloc o, he.imp (fun _ _ _ h => h.alloc o), hd⟩
theorem PcsD.base_le {b' : Nat} (h : PcsD enc k e te w base v ps) (hb : b' ≤ base) : PcsD enc k e te w b' v ps := by
  obtain ⟨ss, ho, he, hd⟩ := h
  exact ⟨ss, ho.base_le hb, he.imp (fun _ _ _ h => h.base_le hb), hd⟩
/-- A row of another type has grown. -/
theorem PcsD.step {row : Option Nat} (h : PcsD enc k e te w base v ps) (hg : w.grownBy w' row) (hr : ∀ t, t = te ∨ t = e → ∀ r, row = some r → r < base ∨ ∀ cs, w.heap[r]? ≠ some (.cells cs t (0, 0))) : PcsD enc k e te w' base v ps := by
  obtain ⟨ss, ho, he, hd⟩ := h
  exact ⟨ss, ho.step hg (hr te (.inl rfl)), he.imp (fun _ _ _ h => h.step hg (hr e (.inr rfl))), hd⟩
theorem Elems.step {row : Option Nat} (h : Elems enc k e w base ss ps) (hg : w.grownBy w' row) (hr : ∀ r, row = some r → r < base ∨ ∀ cs, w.heap[r]? ≠ some (.cells cs e (0, 0))) : Elems enc k e w' base ss ps :=
  h.imp (fun _ _ _ h => h.step hg hr)
theorem Elems.alloc (h : Elems enc k e w base ss ps) (o : Obj) : Elems enc k e (w.alloc o) base ss ps := h.imp (fun _ _ _ h => h.alloc o)
theorem own_rowS {n : Nat} {xs : List Hdr} {t : TypeId} (h : Own encS 1 te w base v n xs) (hte : te ≠ t) : ∀ r, v.ownBlock = some r → r < base ∨ ∀ cs, w.heap[r]? ≠ some (.cells cs t (0, 0)) := fun r hr => by
  obtain ⟨cs, hc⟩ := h.cells r hr
  refine .inr fun cs' hc' => ?_
  rw [hc] at hc'
  cases hc'
  exact hte rfl
theorem own_rowT {β : Type} {encb : β → List Value} {kb : Nat} {eb : TypeId} {n : Nat} {xs : List β} {t : TypeId} (h : Own encb kb eb w base v n xs) (hte : eb ≠ t) : ∀ r, v.ownBlock = some r → r < base ∨ ∀ cs, w.heap[r]? ≠ some (.cells cs t (0, 0)) := fun r hr => by
  obtain ⟨cs, hc⟩ := h.cells r hr
  refine .inr fun cs' hc' => ?_
  rw [hc] at hc'
  cases hc'
  exact hte rfl
/-- A block that no element of ss lies in. -/
def Away (g : Nat) (ss : List Hdr) : Prop := ∀ s ∈ ss, (hv s).ownBlock ≠ some g
theorem Elems.away (h : Elems enc k e w base ss ps) {g : Nat} (hg : w.heap.size ≤ g) : Away g ss := by
  intro s hs he
  obtain ⟨i, hi⟩ := List.mem_iff_getElem?.1 hs
  have hl := h.len
  have hlt : i < ps.length := by have := (List.getElem?_eq_some_iff.1 hi).1; omega
  obtain ⟨A, c, h1, h2⟩ := h.at (List.getElem?_eq_getElem hlt)
  rw [hi] at h1
  cases h1
  have := (h2.blk g he).2
  omega
/-- A header put in between. -/
theorem apart_insert {s : Hdr} {i : Nat} (hd : ss.Pairwise Apart2) (hs : ∀ g, (hv s).ownBlock = some g → Away g ss) : (ss.take i ++ s :: ss.drop i).Pairwise Apart2 := by
  have h0 : (ss.take i ++ ss.drop i).Pairwise Apart2 := by rw [List.take_append_drop]; exact hd
  obtain ⟨h1, h2, h3⟩ := List.pairwise_append.1 h0
  refine List.pairwise_append.2 ⟨h1, List.pairwise_cons.2 ⟨fun t ht g hg he => hs g hg t (List.mem_of_mem_drop ht) he, h2⟩, fun a ha b hb => ?_⟩
  rcases List.mem_cons.1 hb with rfl | hb
  · exact fun g hg he => hs g he a (List.mem_of_mem_take ha) hg
  · exact h3 a ha b hb
/-- Element i's header turned: its block is its own, or new. -/
theorem apart_set : ∀ {i : Nat} {ss : List Hdr} {s t : Hdr}, ss.Pairwise Apart2 → ss[i]? = some s → (∀ g, (hv t).ownBlock = some g → (hv s).ownBlock = some g ∨ Away g ss) → (ss.set i t).Pairwise Apart2
  | 0, a :: r, s, t, hd, hi, ht => by
    simp at hi; subst hi
    obtain ⟨h1, h2⟩ := List.pairwise_cons.1 hd
    refine List.pairwise_cons.2 ⟨fun b hb g hg he => ?_, h2⟩
    rcases ht g hg with h | h
    · exact h1 b hb g h he
    · exact h b (by simp [hb]) he
  | i + 1, a :: r, s, t, hd, hi, ht => by
    simp at hi
    obtain ⟨h1, h2⟩ := List.pairwise_cons.1 hd
    refine List.pairwise_cons.2 ⟨fun b hb g hg he => ?_, apart_set h2 hi (fun g hg => (ht g hg).imp id (fun h b hb => h b (by simp [hb])))⟩
    rcases List.mem_or_eq_of_mem_set hb with hb | rfl
    · exact h1 b hb g hg he
    · rcases ht g he with h | h
      · exact h1 s (List.mem_of_getElem? hi) g hg h
      · exact h a (by simp) hg
  | _, [], _, _, hd, hi, _ => by simp at hi
/-- The elements but number i lie on where i's row grows. -/
theorem Elems.grow_at {w w' : World} {row : Option Nat} {s : Hdr} (hg : w.grownBy w' row) : ∀ {i : Nat} {ss : List Hdr} {ps : List (List α)} {t : Hdr} {q : List α}, Elems enc k e w base ss ps → ss.Pairwise Apart2 → ss[i]? = some s → row = (hv s).ownBlock → t.2.1 = q.length → Own enc k e w' base (hv t) q.length q →
    Elems enc k e w' base (ss.set i t) (ps.set i q)
  | 0, a :: r, p :: ps, t, q, h, hd, hi, hr, ht, ho => by
    simp at hi; subst hi
    obtain ⟨h1, _⟩ := List.pairwise_cons.1 hd
    refine ⟨⟨ht, ho⟩, h.2.imp fun b hb p hp => hp.kept hg ?_⟩
    rw [hr]
    cases hb0 : (hv b).ownBlock with
    | none => exact .inl rfl
    | some g => exact .inr fun e => h1 b hb g (by rw [← e]) hb0
  | i + 1, a :: r, p :: ps, t, q, h, hd, hi, hr, ht, ho => by
    simp at hi
    obtain ⟨h1, h2⟩ := List.pairwise_cons.1 hd
    refine ⟨⟨h.1.1, h.1.2.kept hg ?_⟩, Elems.grow_at hg h.2 h2 hi hr ht ho⟩
    rw [hr]
    cases hb0 : (hv a).ownBlock with
    | none => exact .inl rfl
    | some g => exact .inr fun e => h1 s (List.mem_of_getElem? hi) g hb0 (by rw [← e])
  | _, [], [], _, _, _, _, hi, _, _, _ => by simp at hi
  | _, [], _ :: _, _, _, h, _, _, _, _, _ => h.elim
  | _, _ :: _, [], _, _, h, _, _, _, _, _ => h.elim
/-- A cell of an owned row of headers is set. -/
theorem Own.setS {n cap g i : Nat} {s : Hdr} (h : Own encS 1 te w base (.slice (some ⟨g, 0, none⟩) n cap) n ss) (_hi : i < ss.length) : Own encS 1 te (w.setCell ⟨g, i, none⟩ (hv s)) base (.slice (some ⟨g, 0, none⟩) n cap) n (ss.set i s) := by
  refine ⟨by simpa using h.1, ?_⟩
  have hlen : ∀ xs : List Hdr, (xs.flatMap encS).length = xs.length := fun xs => by simpa using flat_len encS_len xs
  have hmap : ∀ xs : List Hdr, xs.flatMap encS = xs.map hv := fun xs => by induction xs <;> simp_all [encS]
  obtain ⟨h0, h1⟩ := h.2
  refine ⟨by rw [hlen] at h0 ⊢; simpa using h0, ?_⟩
  rcases h1 with ⟨h1, _⟩ | ⟨g', cap', cur, h1, hb, hheap, hnc, hcm, hsz, htake⟩
  · cases h1
  · cases h1
    refine .inr ⟨g, cap, cur.setIfInBounds i (hv s), rfl, hb, ?_, hnc, hcm, by simpa using hsz, ?_⟩
    · simp [World.setCell, Array.getElem?_modify, hheap]
    · rw [hmap] at htake ⊢
      rw [Array.toList_setIfInBounds, List.take_set, htake, List.map_set]
end
end Go.Proofs.YtelfnmohpjkilaaGreatDoor
/- An element of an owned slice is set, cell by cell. No dump is named. -/
namespace Go.Proofs.YtelfnmohpjkilaaGreatDoor
open Go.RowKit Go.Sort
def setMany {β : Type} : List β → Nat → List β → List β
  | l, _, [] => l
  | l, o, v :: vs => setMany (l.set o v) (o + 1) vs
theorem setMany_eq {β : Type} : ∀ (vs l : List β) (o : Nat), o + vs.length ≤ l.length → setMany l o vs = l.take o ++ vs ++ l.drop (o + vs.length)
  | [], l, o, _ => by simp [setMany]
  | v :: vs, l, o, h => by
    rw [List.length_cons] at h
    rw [setMany, setMany_eq vs (l.set o v) (o + 1) (by rw [List.length_set]; omega)]
    have h1 : (l.set o v).take (o + 1) = l.take o ++ [v] := by
      rw [List.take_succ_eq_append_getElem (by rw [List.length_set]; omega), List.getElem_set_self, List.take_set_of_le (Nat.le_refl _)]
    have h2 : (l.set o v).drop (o + 1 + vs.length) = l.drop (o + (v :: vs).length) := by
      rw [List.drop_set_of_lt (by omega), List.length_cons]
      congr 1
      omega
    rw [h1, h2]
    simp
def setW : World → Nat → Nat → List Value → World
  | w, _, _, [] => w
  | w, g, o, v :: vs => setW (w.setCell ⟨g, o, none⟩ v) g (o + 1) vs
theorem setW_heap {e : TypeId} {z : Nat × Nat} {g : Nat} : ∀ (vs : List Value) (w : World) (o : Nat) (cs : Array Value), w.heap[g]? = some (.cells cs e z) → ∃ cs' : Array Value, (setW w g o vs).heap[g]? = some (.cells cs' e z) ∧ cs'.toList = setMany cs.toList o vs
  | [], w, o, cs, h => ⟨cs, h, rfl⟩
  | v :: vs, w, o, cs, h => by
    have h1 : (w.setCell ⟨g, o, none⟩ v).heap[g]? = some (.cells (cs.setIfInBounds o v) e z) := by
      simp [World.setCell, Array.getElem?_modify, h]
    obtain ⟨cs', h2, h3⟩ := setW_heap vs (w.setCell ⟨g, o, none⟩ v) (o + 1) _ h1
    exact ⟨cs', h2, by rw [h3, Array.toList_setIfInBounds]; rfl⟩
theorem setW_below {n g : Nat} {w0 : World} (hg : n ≤ g) : ∀ (vs : List Value) (w : World) (o : Nat), Below n w0 w → Below n w0 (setW w g o vs)
  | [], _, _, h => h
  | v :: vs, _, _, h => setW_below hg vs _ _ (h.setCell hg v)
theorem setW_grown (g : Nat) : ∀ (vs : List Value) (w : World) (o : Nat), w.grownBy (setW w g o vs) (some g)
  | [], _, _ => World.grownBy.refl _ _
  | v :: vs, w, o => by
    have h1 : w.grownBy (w.setCell ⟨g, o, none⟩ v) (some g) := ⟨rfl, rfl, rfl, (KeepsWalks.setCell w _ v).size, fun k _ hne => Below.heap_setCell w ⟨g, o, none⟩ v k (fun e => hne (by rw [e]))⟩
    exact h1.trans (setW_grown g vs _ _)
theorem flat_set {α : Type} {enc : α → List Value} {k : Nat} (hk : ∀ x, (enc x).length = k) : ∀ (xs : List α) (i : Nat) (y : α), i < xs.length → (xs.set i y).flatMap enc = (xs.flatMap enc).take (i * k) ++ enc y ++ (xs.flatMap enc).drop (i * k + k)
  | x :: xs, 0, y, _ => by
    have h1 : (enc x ++ xs.flatMap enc).drop (0 + k) = xs.flatMap enc := by
      rw [Nat.zero_add]
      have := List.drop_left (l₁ := enc x) (l₂ := xs.flatMap enc)
      rw [hk] at this
      exact this
    simp only [List.set_cons_zero, List.flatMap_cons, Nat.zero_mul, List.take_zero, List.nil_append, h1]
  | x :: xs, i + 1, y, h => by
    have ih := flat_set hk xs i y (by simpa using h)
    simp only [List.set_cons_succ, List.flatMap_cons]
    rw [ih]
    have e1 : (enc x ++ xs.flatMap enc).take ((i + 1) * k) = enc x ++ (xs.flatMap enc).take (i * k) := by
      rw [List.take_append, hk, List.take_of_length_le (by rw [hk, Nat.add_mul]; omega)]
      congr 2
      rw [Nat.add_mul]; omega
    have e2 : (enc x ++ xs.flatMap enc).drop ((i + 1) * k + k) = (xs.flatMap enc).drop (i * k + k) := by
      rw [List.drop_append, hk, List.drop_eq_nil_of_le (by rw [hk, Nat.add_mul]; omega), List.nil_append]
      congr 1
      rw [Nat.add_mul]; omega
    rw [e1, e2]
    simp
  | [], _, _, h => by simp at h
theorem Own.setW {α : Type} {enc : α → List Value} {k : Nat} {e : TypeId} {w : World} {base n cap g i : Nat} {xs : List α} (hk : ∀ x, (enc x).length = k) (h : Own enc k e w base (.slice (some ⟨g, 0, none⟩) n cap) n xs) (hi : i < xs.length) (y : α) :
    Own enc k e (Proofs.YtelfnmohpjkilaaGreatDoor.setW w g (i * k) (enc y)) base (.slice (some ⟨g, 0, none⟩) n cap) n (xs.set i y) := by
  refine ⟨by simpa using h.1, ?_⟩
  obtain ⟨h0, h1⟩ := h.2
  have hn := h.1
  have hfl := flat_len hk xs
  have hfl2 := flat_len hk (xs.set i y)
  rw [List.length_set] at hfl2
  have hik : i * k + k ≤ xs.length * k := by
    have := Nat.mul_le_mul_right k (show i + 1 ≤ xs.length from hi)
    rw [Nat.add_mul] at this; omega
  refine ⟨by rw [hfl2, hn], ?_⟩
  rcases h1 with ⟨h1, _⟩ | ⟨g', cap', cur, h1, hb, hheap, hnc, hcm, hsz, htake⟩
  · cases h1
  · cases h1
    obtain ⟨cs', h2, h3⟩ := setW_heap (enc y) w (i * k) cur hheap
    have hcl : xs.length * k ≤ cur.toList.length := by
      have e1 : cur.toList.length = cur.size := Array.length_toList
      rw [e1, hsz]
      exact Nat.mul_le_mul_right _ (by omega)
    have hsm := setMany_eq (enc y) cur.toList (i * k) (by rw [hk]; omega)
    rw [hk] at hsm
    refine .inr ⟨g, cap, cs', rfl, hb, h2, hnc, hcm, ?_, ?_⟩
    · have : cs'.toList.length = cur.toList.length := by
        rw [h3, hsm]
        simp only [List.length_append, List.length_take, List.length_drop, hk]
        omega
      simpa [hsz] using this
    · rw [h3, hsm, flat_set hk xs i y hi, ← htake, hn]
      rw [List.take_append, List.take_append, List.take_take, List.length_take, List.length_append, List.length_take, hk]
      rw [show min (xs.length * k) (i * k) = i * k by omega, show min (i * k) cur.toList.length = i * k by omega]
      rw [List.take_of_length_le (l := enc y) (by rw [hk]; omega), List.take_take, show min (i * k) (xs.length * k) = i * k by omega]
      congr 1
      rw [List.drop_take]
end Go.Proofs.YtelfnmohpjkilaaGreatDoor
