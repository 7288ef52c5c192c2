/- Joined texts: Kit EncI VecP. -/
import Derived.WalkKit
import Derived.WalkSpells
import Derived.WalkLawsBesides
import Derived.Laws.OwnMore
import Derived.Deep.AppendLies
import Derived.Deep.Draws
/- Words for slices of points, triangles and other rows, over any program. Nothing of a dump is named here. -/
namespace Go.Proofs.Ytfljcgehhnmamaa
open Go.RowKit

abbrev Pt := Int × Int × Int
abbrev Tri := Pt × Pt × Pt

abbrev vi (x : Int) : Value := .int .i64 x
def encP (p : Pt) : List Value := [.int .i64 p.1, .int .i64 p.2.1, .int .i64 p.2.2]
def encT (t : Tri) : List Value := [.int .i64 t.1.1, .int .i64 t.1.2.1, .int .i64 t.1.2.2, .int .i64 t.2.1.1, .int .i64 t.2.1.2.1, .int .i64 t.2.1.2.2, .int .i64 t.2.2.1, .int .i64 t.2.2.2.1, .int .i64 t.2.2.2.2]
abbrev vP (p : Pt) : Value := .agg #[.int .i64 p.1, .int .i64 p.2.1, .int .i64 p.2.2]
abbrev vT (t : Tri) : Value := .agg #[.int .i64 t.1.1, .int .i64 t.1.2.1, .int .i64 t.1.2.2, .int .i64 t.2.1.1, .int .i64 t.2.1.2.1, .int .i64 t.2.1.2.2, .int .i64 t.2.2.1, .int .i64 t.2.2.2.1, .int .i64 t.2.2.2.2]

theorem add_none (b o n : Nat) : (Addr.add ⟨b, o, none⟩ n) = ⟨b, o + n, none⟩ := by
  unfold Addr.add; split
  · subst_vars; rfl
  · rfl

/-- The slice at A reads, in w, as xs: each element is the k cells of 'enc'; all below block B. -/
def Sl {α : Type} (enc : α → List Value) (k : Nat) (w : World) (B : Nat) (A : Option Addr) (xs : List α) : Prop :=
  (xs = [] ∧ A = none) ∨ ∃ b o, A = some ⟨b, o, none⟩ ∧ b < B ∧ ∀ i x, xs[i]? = some x → ∀ j u, (enc x)[j]? = some u → w.cell? ⟨b, o + i * k + j, none⟩ = some u

section
variable {α : Type} {enc : α → List Value} {k : Nat} {w w' : World} {B B' : Nat} {A : Option Addr} {xs : List α}
theorem Sl.nil : Sl enc k w B none ([] : List α) := .inl ⟨rfl, rfl⟩
theorem Sl.keep (h : Sl enc k w B A xs) (hk : ∀ p : Addr, p.block < B → w'.cell? p = w.cell? p) : Sl enc k w' B A xs := by
  rcases h with h | ⟨b, o, ha, hb, hc⟩
  · exact .inl h
  · exact .inr ⟨b, o, ha, hb, fun i x hx j u hu => (hk ⟨b, _, none⟩ hb).trans (hc i x hx j u hu)⟩
theorem Sl.more (h : Sl enc k w B A xs) (hB : B ≤ B') : Sl enc k w B' A xs := by
  rcases h with h | ⟨b, o, ha, hb, hc⟩
  · exact .inl h
  · exact .inr ⟨b, o, ha, by omega, hc⟩
theorem Sl.below (h : Sl enc k w B A xs) (hb : Below B w w') : Sl enc k w' B A xs := h.keep fun _ hp => hb.cell hp
/-- Where an element lies. -/
theorem Sl.at {i : Nat} {x : α} (h : Sl enc k w B A xs) (hi : xs[i]? = some x) : ∃ b o, A = some ⟨b, o, none⟩ ∧ b < B ∧ ∀ j u, (enc x)[j]? = some u → w.cell? ⟨b, o + i * k + j, none⟩ = some u := by
  rcases h with ⟨h, _⟩ | ⟨b, o, ha, hb, hc⟩
  · subst h; simp at hi
  · exact ⟨b, o, ha, hb, hc i x hi⟩
end
/-- A triangle's nine cells. -/
def CellsT (w : World) (b o : Nat) (t : Tri) : Prop :=
  w.cell? ⟨b, o, none⟩ = some (.int .i64 t.1.1) ∧ w.cell? ⟨b, o + 1, none⟩ = some (.int .i64 t.1.2.1) ∧ w.cell? ⟨b, o + 2, none⟩ = some (.int .i64 t.1.2.2) ∧
  w.cell? ⟨b, o + 3, none⟩ = some (.int .i64 t.2.1.1) ∧ w.cell? ⟨b, o + 4, none⟩ = some (.int .i64 t.2.1.2.1) ∧ w.cell? ⟨b, o + 5, none⟩ = some (.int .i64 t.2.1.2.2) ∧
  w.cell? ⟨b, o + 6, none⟩ = some (.int .i64 t.2.2.1) ∧ w.cell? ⟨b, o + 7, none⟩ = some (.int .i64 t.2.2.2.1) ∧ w.cell? ⟨b, o + 8, none⟩ = some (.int .i64 t.2.2.2.2)
theorem Sl.tri {w : World} {B : Nat} {A : Option Addr} {ts : List Tri} (h : Sl encT 9 w B A ts) {i : Nat} {t : Tri} (hi : ts[i]? = some t) :
    ∃ b o, A = some ⟨b, o, none⟩ ∧ b < B ∧ CellsT w b (o + i * 9) t := by
  obtain ⟨b, o, ha, hb, hc⟩ := h.at hi
  exact ⟨b, o, ha, hb, hc 0 _ rfl, hc 1 _ rfl, hc 2 _ rfl, hc 3 _ rfl, hc 4 _ rfl, hc 5 _ rfl, hc 6 _ rfl, hc 7 _ rfl, hc 8 _ rfl⟩

/-- A block that is known whole, none of it frozen. -/
def Blk (w : World) (g : Nat) (t : TypeId) (cs : Array Value) : Prop := w.heap[g]? = some (.cells cs t (0, 0))
section
variable {w w' : World} {g : Nat} {t : TypeId} {cs : Array Value}
theorem Blk.lt (h : Blk w g t cs) : g < w.heap.size := by
  rcases Nat.lt_or_ge g w.heap.size with hlt | hge
  · exact hlt
  · unfold Blk at h; rw [Array.getElem?_eq_none hge] at h; cases h
theorem Blk.cell (h : Blk w g t cs) (i : Nat) : w.cell? ⟨g, i, none⟩ = cs[i]? := cell_of_row w g i cs t (0, 0) h
theorem Blk.frozen (h : Blk w g t cs) (i : Nat) : w.frozen? ⟨g, i, none⟩ = false := by
  unfold Blk at h
  simp [World.frozen?, h]
theorem Blk.new (w : World) (t : TypeId) (cs : Array Value) : Blk (w.alloc (.cells cs t)) w.heap.size t cs := heap_alloc_new w _
theorem Blk.new' (w : World) (t : TypeId) (cs : Array Value) (g : Nat) (hg : g = w.heap.size) : Blk (w.alloc (.cells cs t)) g t cs := by subst hg; exact Blk.new w t cs
theorem Blk.drew (h : Blk w g t cs) : Blk w.drew g t cs := h
theorem Blk.drewN (h : Blk w g t cs) (n : Nat) : Blk (w.drewN n) g t cs := h
theorem Blk.alloc (h : Blk w g t cs) (o : Obj) : Blk (w.alloc o) g t cs := (Below.heap_alloc w o g h.lt).trans h
theorem Blk.set_ (h : Blk w g t cs) (i : Nat) (u : Value) : Blk (w.setCell ⟨g, i, none⟩ u) g t (cs.setIfInBounds i u) := by
  unfold Blk at h ⊢
  simp [World.setCell, Array.getElem?_modify, h]
theorem Blk.far (h : Blk w g t cs) {p : Addr} (hp : g ≠ p.block) (u : Value) : Blk (w.setCell p u) g t cs := (Below.heap_setCell w p u g hp).trans h
theorem Blk.set3 {a b c : Value} (h : Blk w g t #[a, b, c]) (x y z : Value) : Blk (((w.setCell ⟨g, 0, none⟩ x).setCell ⟨g, 1, none⟩ y).setCell ⟨g, 2, none⟩ z) g t #[x, y, z] :=
  ((h.set_ 0 x).set_ 1 y).set_ 2 z
theorem Blk.far3 (h : Blk w g t cs) {g' : Nat} (hg : g ≠ g') (x y z : Value) : Blk (((w.setCell ⟨g', 0, none⟩ x).setCell ⟨g', 1, none⟩ y).setCell ⟨g', 2, none⟩ z) g t cs :=
  ((h.far (p := ⟨g', 0, none⟩) hg x).far (p := ⟨g', 1, none⟩) hg y).far (p := ⟨g', 2, none⟩) hg z
theorem Blk.below {B : Nat} (h : Blk w g t cs) (hb : Below B w w') (hg : g < B) : Blk w' g t cs := (hb.block g hg).trans h
theorem Blk.grown {row : Option Nat} (h : Blk w g t cs) (hb : w.grownBy w' row) (hg : some g ≠ row) : Blk w' g t cs := (hb.block g h.lt hg).trans h
end
theorem bcell {B : Nat} {W w1 : World} (hb : Below B W w1) : (∀ b o, b < B → w1.cell? ⟨b, o, none⟩ = W.cell? ⟨b, o, none⟩) ∧ (∀ b o, b < B → w1.frozen? ⟨b, o, none⟩ = W.frozen? ⟨b, o, none⟩) :=
  ⟨fun b o h => hb.cell (p := ⟨b, o, none⟩) h, fun b o h => hb.frozen (p := ⟨b, o, none⟩) h⟩
theorem below_drewN {B : Nat} {a w : World} (h : Below B a w) (n : Nat) : Below B a (w.drewN n) := ⟨h.os, h.tape, h.output, h.size, h.block⟩
theorem hide {p : Prop} (h : p) : Hid p := h
theorem unhide {p : Prop} (h : Hid p) : p := h
end Go.Proofs.Ytfljcgehhnmamaa
/- Integers as elements. No dump is named. -/
namespace Go.Proofs.Ytfljcgehhnmamaa
def encI (x : Nat) : List Value := [.int .i64 x]
theorem encI_len (x : Nat) : (encI x).length = 1 := rfl
theorem encI_one (x : Nat) : ∀ u ∈ encI x, u.oneCell' = true := by
  intro u hu
  simp only [encI, List.mem_singleton] at hu
  subst hu
  rfl
end Go.Proofs.Ytfljcgehhnmamaa
/- Layer 8, plain: the crossings of a cell, how they are joined, its cycles. No program. -/
namespace Go.Proofs.Ytfljcgehhnmamaa
/-- The place of vertex v, in halves of the side. -/
def cornerP (v : Nat) : Pt := ((2 * (v % 2) : Nat), (2 * (v / 2 % 2) : Nat), (2 * (v / 4 % 2) : Nat))
def midP (u v : Nat) : Pt := (((cornerP u).1 + (cornerP v).1) / 2, ((cornerP u).2.1 + (cornerP v).2.1) / 2, ((cornerP u).2.2 + (cornerP v).2.2) / 2)
def compP (p : Pt) (a : Nat) : Int := if a = 0 then p.1 else if a = 1 then p.2.1 else p.2.2
/-- On which side of the way from p to q vertex v lies. -/
def detJ (p q : Pt) (v axis : Nat) : Int :=
  (compP q ((axis + 1) % 3) - compP p ((axis + 1) % 3)) * (compP (cornerP v) ((axis + 2) % 3) - compP p ((axis + 2) % 3)) - (compP q ((axis + 2) % 3) - compP p ((axis + 2) % 3)) * (compP (cornerP v) ((axis + 1) % 3) - compP p ((axis + 1) % 3))
def sgn (pos : Bool) : Int := if pos then 1 else -1
def joinJ (p q : Pt) (v axis : Nat) (pos : Bool) : Pt × Pt := if 0 < detJ p q v axis * sgn pos then (q, p) else (p, q)
def ringV (axis : Nat) (pos : Bool) (k : Nat) : Nat :=
  (if pos then 2 ^ axis else 0) + (if k % 4 = 1 ∨ k % 4 = 2 then 2 ^ ((axis + 1) % 3) else 0) + (if k % 4 = 2 ∨ k % 4 = 3 then 2 ^ ((axis + 2) % 3) else 0)
/-- The crossings among the first k edges of a ring. -/
def crossN (ins : Nat → Bool) (axis : Nat) (pos : Bool) (k : Nat) : List Pt :=
  ((List.range k).filter fun i => ins (ringV axis pos i) != ins (ringV axis pos (i + 1))).map fun i => midP (ringV axis pos i) (ringV axis pos (i + 1))
/-- The last inside vertex among the first k ones. -/
def lastIn (ins : Nat → Bool) (axis : Nat) (pos : Bool) : Nat → Int
  | 0 => -1
  | k + 1 => if ins (ringV axis pos k) then (ringV axis pos k : Nat) else lastIn ins axis pos k
/-- The joins at the inside vertices among the first k ones. -/
def fourN (ins : Nat → Bool) (axis : Nat) (pos : Bool) (k : Nat) : List (Pt × Pt) :=
  ((List.range k).filter fun i => ins (ringV axis pos i)).map fun i => joinJ (midP (ringV axis pos (i + 3)) (ringV axis pos i)) (midP (ringV axis pos i) (ringV axis pos (i + 1))) (ringV axis pos i) axis pos
def faceJ (ins : Nat → Bool) (axis : Nat) (pos : Bool) : List (Pt × Pt) :=
  match crossN ins axis pos 4 with
  | [p, q] => [joinJ p q (lastIn ins axis pos 4).toNat axis pos]
  | [_, _, _, _] => fourN ins axis pos 4
  | _ => []
def allJ (ins : Nat → Bool) : List (Pt × Pt) := faceJ ins 0 false ++ faceJ ins 0 true ++ (faceJ ins 1 false ++ faceJ ins 1 true) ++ (faceJ ins 2 false ++ faceJ ins 2 true)
/-- What stands at a key behind stores in this order. -/
def lk (ms : List (Pt × Pt)) (p : Pt) : Option Pt := (ms.reverse.find? fun x => decide (x.1 = p)).map (·.2)
theorem lk_snoc (ms : List (Pt × Pt)) (a : Pt × Pt) (p : Pt) : lk (ms ++ [a]) p = if p = a.1 then some a.2 else lk ms p := by
  unfold lk
  rw [List.reverse_append, List.reverse_singleton, List.singleton_append, List.find?_cons]
  by_cases h : p = a.1
  · rw [if_pos h, decide_eq_true h.symm]; rfl
  · rw [if_neg h, decide_eq_false (fun e => h e.symm)]
/-! The reference's way. -/
def placeE (e : Nat) : Pt :=
  (((2 * (e % 2) : Nat) : Int) + (if e / 8 = 0 then 1 else 0), ((2 * (e / 2 % 2) : Nat) : Int) + (if e / 8 = 1 then 1 else 0), ((2 * (e / 4 % 2) : Nat) : Int) + (if e / 8 = 2 then 1 else 0))
def edgeE (v axis : Nat) : Nat := (v - if v / 2 ^ axis % 2 = 1 then 2 ^ axis else 0) + 8 * axis
def rightE (p q v axis : Nat) (pos : Bool) : Bool := if pos then decide (detJ (placeE p) (placeE q) v axis < 0) else decide (0 < detJ (placeE p) (placeE q) v axis)
def joinE (p q v axis : Nat) (pos : Bool) : Nat × Nat := if rightE p q v axis pos then (p, q) else (q, p)
/-- Vertex k of a face. -/
def faceV (axis : Nat) (pos : Bool) (k : Nat) : Nat := (if pos then 2 ^ axis else 0) + k % 2 * 2 ^ ((axis + 1) % 3) + k / 2 * 2 ^ ((axis + 2) % 3)
def crossE1 (ins : Nat → Bool) (axis : Nat) (pos : Bool) (k : Nat) : List Nat :=
  (if k % 2 = 0 ∧ ins (faceV axis pos k) ≠ ins (faceV axis pos k + 2 ^ ((axis + 1) % 3)) then [edgeE (faceV axis pos k) ((axis + 1) % 3)] else []) ++
  (if k / 2 = 0 ∧ ins (faceV axis pos k) ≠ ins (faceV axis pos k + 2 ^ ((axis + 2) % 3)) then [edgeE (faceV axis pos k) ((axis + 2) % 3)] else [])
def crossE (ins : Nat → Bool) (axis : Nat) (pos : Bool) (k : Nat) : List Nat := (List.range k).flatMap (crossE1 ins axis pos)
def lastE (ins : Nat → Bool) (axis : Nat) (pos : Bool) : Nat → Int
  | 0 => -1
  | k + 1 => if ins (faceV axis pos k) then (faceV axis pos k : Nat) else lastE ins axis pos k
def fourE (ins : Nat → Bool) (axis : Nat) (pos : Bool) (k : Nat) : List (Nat × Nat) :=
  ((List.range k).filter fun i => ins (faceV axis pos i)).map fun i => joinE (edgeE (faceV axis pos i) ((axis + 1) % 3)) (edgeE (faceV axis pos i) ((axis + 2) % 3)) (faceV axis pos i) axis pos
def faceE (ins : Nat → Bool) (axis : Nat) (pos : Bool) : List (Nat × Nat) :=
  match crossE ins axis pos 4 with
  | [p, q] => [joinE p q (lastE ins axis pos 4).toNat axis pos]
  | [_, _, _, _] => fourE ins axis pos 4
  | _ => []
def allE (ins : Nat → Bool) : List (Nat × Nat) := faceE ins 0 false ++ faceE ins 0 true ++ (faceE ins 1 false ++ faceE ins 1 true) ++ (faceE ins 2 false ++ faceE ins 2 true)
def nxE (ms : List (Nat × Nat)) (x : Nat) : Int := match (ms.reverse.find? fun y => decide (y.1 = x)) with | some y => (y.2 : Int) | none => -1
/-- From x on, until a crossing was seen. -/
def orbE (nx : Nat → Int) : Nat → List Nat → Nat → List Nat
  | 0, _, _ => []
  | f + 1, seen, x => if 0 ≤ nx x ∧ x ∉ seen then x :: orbE nx f (x :: seen) (nx x).toNat else []
def cycE (nx : Nat → Int) : List Nat → List Nat → List (List Nat)
  | [], _ => []
  | e :: es, seen => let l := orbE nx 25 seen e
    (if l.isEmpty then [] else [l]) ++ cycE nx es (l ++ seen)
def cyclesP (ins : Nat → Bool) : List (List Pt) := (cycE (nxE (allE ins)) (List.range 24) []).map fun l => l.map placeE
def insL (l : List Bool) (v : Nat) : Bool := l.getD v false
def chk (l : List Bool) : Bool :=
  let J := allJ (insL l)
  let CS := cyclesP (insL l)
  decide ((J.map (·.1)).Nodup) && decide (CS.flatten.Nodup) && CS.all (fun C => decide (3 ≤ C.length)) &&
  CS.all (fun C => (List.range C.length).all fun k => decide (lk J (C.getD k (0, 0, 0)) = some (C.getD ((k + 1) % C.length) (0, 0, 0)))) &&
  J.all (fun x => decide (x.1 ∈ CS.flatten)) && (l.contains true && l.contains false || CS.isEmpty)
end Go.Proofs.Ytfljcgehhnmamaa
