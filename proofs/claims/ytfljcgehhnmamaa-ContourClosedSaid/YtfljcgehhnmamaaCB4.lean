/- Joined texts: Kit EncI VecP DigP VolD. -/
import Derived.WalkKit
import Derived.WalkSpells
import Derived.WalkLawsBesides
import Derived.Laws.OwnMore
import Derived.Deep.AppendLies
import Derived.Deep.Draws
/- Words for slices of points, triangles and other rows, over any program. Nothing of a dump is named here. -/
namespace Go.Proofs.Ytfljcgehhnmamaa
open Go.RowKit

abbrev Pt := Int × Int × Int
abbrev Tri := Pt × Pt × Pt

abbrev vi (x : Int) : Value := .int .i64 x
def encP (p : Pt) : List Value := [.int .i64 p.1, .int .i64 p.2.1, .int .i64 p.2.2]
def encT (t : Tri) : List Value := [.int .i64 t.1.1, .int .i64 t.1.2.1, .int .i64 t.1.2.2, .int .i64 t.2.1.1, .int .i64 t.2.1.2.1, .int .i64 t.2.1.2.2, .int .i64 t.2.2.1, .int .i64 t.2.2.2.1, .int .i64 t.2.2.2.2]
abbrev vP (p : Pt) : Value := .agg #[.int .i64 p.1, .int .i64 p.2.1, .int .i64 p.2.2]
abbrev vT (t : Tri) : Value := .agg #[.int .i64 t.1.1, .int .i64 t.1.2.1, .int .i64 t.1.2.2, .int .i64 t.2.1.1, .int .i64 t.2.1.2.1, .int .i64 t.2.1.2.2, .int .i64 t.2.2.1, .int .i64 t.2.2.2.1, .int .i64 t.2.2.2.2]

theorem add_none (b o n : Nat) : (Addr.add ⟨b, o, none⟩ n) = ⟨b, o + n, none⟩ := by
  unfold Addr.add; split
  · subst_vars; rfl
  · rfl

/-- The slice at A reads, in w, as xs: each element is the k cells of 'enc'; all below block B. -/
def Sl {α : Type} (enc : α → List Value) (k : Nat) (w : World) (B : Nat) (A : Option Addr) (xs : List α) : Prop :=
  (xs = [] ∧ A = none) ∨ ∃ b o, A = some ⟨b, o, none⟩ ∧ b < B ∧ ∀ i x, xs[i]? = some x → ∀ j u, (enc x)[j]? = some u → w.cell? ⟨b, o + i * k + j, none⟩ = some u

section
variable {α : Type} {enc : α → List Value} {k : Nat} {w w' : World} {B B' : Nat} {A : Option Addr} {xs : List α}
theorem Sl.nil : Sl enc k w B none ([] : List α) := .inl ⟨rfl, rfl⟩
theorem Sl.keep (h : Sl enc k w B A xs) (hk : ∀ p : Addr, p.block < B → w'.cell? p = w.cell? p) : Sl enc k w' B A xs := by
  rcases h with h | ⟨b, o, ha, hb, hc⟩
  · exact .inl h
  · exact .inr ⟨b, o, ha, hb, fun i x hx j u hu => (hk ⟨b, _, none⟩ hb).trans (hc i x hx j u hu)⟩
theorem Sl.more (h : Sl enc k w B A xs) (hB : B ≤ B') : Sl enc k w B' A xs := by
  rcases h with h | ⟨b, o, ha, hb, hc⟩
  · exact .inl h
  · exact .inr ⟨b, o, ha, by omega, hc⟩
theorem Sl.below (h : Sl enc k w B A xs) (hb : Below B w w') : Sl enc k w' B A xs := h.keep fun _ hp => hb.cell hp
/-- Where an element lies. -/
theorem Sl.at {i : Nat} {x : α} (h : Sl enc k w B A xs) (hi : xs[i]? = some x) : ∃ b o, A = some ⟨b, o, none⟩ ∧ b < B ∧ ∀ j u, (enc x)[j]? = some u → w.cell? ⟨b, o + i * k + j, none⟩ = some u := by
  rcases h with ⟨h, _⟩ | ⟨b, o, ha, hb, hc⟩
  · subst h; simp at hi
  · exact ⟨b, o, ha, hb, hc i x hi⟩
end
/-- A triangle's nine cells. -/
def CellsT (w : World) (b o : Nat) (t : Tri) : Prop :=
  w.cell? ⟨b, o, none⟩ = some (.int .i64 t.1.1) ∧ w.cell? ⟨b, o + 1, none⟩ = some (.int .i64 t.1.2.1) ∧ w.cell? ⟨b, o + 2, none⟩ = some (.int .i64 t.1.2.2) ∧
  w.cell? ⟨b, o + 3, none⟩ = some (.int .i64 t.2.1.1) ∧ w.cell? ⟨b, o + 4, none⟩ = some (.int .i64 t.2.1.2.1) ∧ w.cell? ⟨b, o + 5, none⟩ = some (.int .i64 t.2.1.2.2) ∧
  w.cell? ⟨b, o + 6, none⟩ = some (.int .i64 t.2.2.1) ∧ w.cell? ⟨b, o + 7, none⟩ = some (.int .i64 t.2.2.2.1) ∧ w.cell? ⟨b, o + 8, none⟩ = some (.int .i64 t.2.2.2.2)
theorem Sl.tri {w : World} {B : Nat} {A : Option Addr} {ts : List Tri} (h : Sl encT 9 w B A ts) {i : Nat} {t : Tri} (hi : ts[i]? = some t) :
    ∃ b o, A = some ⟨b, o, none⟩ ∧ b < B ∧ CellsT w b (o + i * 9) t := by
  obtain ⟨b, o, ha, hb, hc⟩ := h.at hi
  exact ⟨b, o, ha, hb, hc 0 _ rfl, hc 1 _ rfl, hc 2 _ rfl, hc 3 _ rfl, hc 4 _ rfl, hc 5 _ rfl, hc 6 _ rfl, hc 7 _ rfl, hc 8 _ rfl⟩

/-- A block that is known whole, none of it frozen. -/
def Blk (w : World) (g : Nat) (t : TypeId) (cs : Array Value) : Prop := w.heap[g]? = some (.cells cs t (0, 0))
section
variable {w w' : World} {g : Nat} {t : TypeId} {cs : Array Value}
theorem Blk.lt (h : Blk w g t cs) : g < w.heap.size := by
  rcases Nat.lt_or_ge g w.heap.size with hlt | hge
  · exact hlt
  · unfold Blk at h; rw [Array.getElem?_eq_none hge] at h; cases h
theorem Blk.cell (h : Blk w g t cs) (i : Nat) : w.cell? ⟨g, i, none⟩ = cs[i]? := cell_of_row w g i cs t (0, 0) h
theorem Blk.frozen (h : Blk w g t cs) (i : Nat) : w.frozen? ⟨g, i, none⟩ = false := by
  unfold Blk at h
  simp [World.frozen?, h]
theorem Blk.new (w : World) (t : TypeId) (cs : Array Value) : Blk (w.alloc (.cells cs t)) w.heap.size t cs := heap_alloc_new w _
theorem Blk.new' (w : World) (t : TypeId) (cs : Array Value) (g : Nat) (hg : g = w.heap.size) : Blk (w.alloc (.cells cs t)) g t cs := by subst hg; exact Blk.new w t cs
theorem Blk.drew (h : Blk w g t cs) : Blk w.drew g t cs := h
theorem Blk.drewN (h : Blk w g t cs) (n : Nat) : Blk (w.drewN n) g t cs := h
theorem Blk.alloc (h : Blk w g t cs) (o : Obj) : Blk (w.alloc o) g t cs := (Below.heap_alloc w o g h.lt).trans h
theorem Blk.set_ (h : Blk w g t cs) (i : Nat) (u : Value) : Blk (w.setCell ⟨g, i, none⟩ u) g t (cs.setIfInBounds i u) := by
  unfold Blk at h ⊢
  simp [World.setCell, Array.getElem?_modify, h]
theorem Blk.far (h : Blk w g t cs) {p : Addr} (hp : g ≠ p.block) (u : Value) : Blk (w.setCell p u) g t cs := (Below.heap_setCell w p u g hp).trans h
theorem Blk.set3 {a b c : Value} (h : Blk w g t #[a, b, c]) (x y z : Value) : Blk (((w.setCell ⟨g, 0, none⟩ x).setCell ⟨g, 1, none⟩ y).setCell ⟨g, 2, none⟩ z) g t #[x, y, z] :=
  ((h.set_ 0 x).set_ 1 y).set_ 2 z
theorem Blk.far3 (h : Blk w g t cs) {g' : Nat} (hg : g ≠ g') (x y z : Value) : Blk (((w.setCell ⟨g', 0, none⟩ x).setCell ⟨g', 1, none⟩ y).setCell ⟨g', 2, none⟩ z) g t cs :=
  ((h.far (p := ⟨g', 0, none⟩) hg x).far (p := ⟨g', 1, none⟩) hg y).far (p := ⟨g', 2, none⟩) hg z
theorem Blk.below {B : Nat} (h : Blk w g t cs) (hb : Below B w w') (hg : g < B) : Blk w' g t cs := (hb.block g hg).trans h
theorem Blk.grown {row : Option Nat} (h : Blk w g t cs) (hb : w.grownBy w' row) (hg : some g ≠ row) : Blk w' g t cs := (hb.block g h.lt hg).trans h
end
theorem bcell {B : Nat} {W w1 : World} (hb : Below B W w1) : (∀ b o, b < B → w1.cell? ⟨b, o, none⟩ = W.cell? ⟨b, o, none⟩) ∧ (∀ b o, b < B → w1.frozen? ⟨b, o, none⟩ = W.frozen? ⟨b, o, none⟩) :=
  ⟨fun b o h => hb.cell (p := ⟨b, o, none⟩) h, fun b o h => hb.frozen (p := ⟨b, o, none⟩) h⟩
theorem below_drewN {B : Nat} {a w : World} (h : Below B a w) (n : Nat) : Below B a (w.drewN n) := ⟨h.os, h.tape, h.output, h.size, h.block⟩
theorem hide {p : Prop} (h : p) : Hid p := h
theorem unhide {p : Prop} (h : Hid p) : p := h
end Go.Proofs.Ytfljcgehhnmamaa
/- Integers as elements. No dump is named. -/
namespace Go.Proofs.Ytfljcgehhnmamaa
def encI (x : Nat) : List Value := [.int .i64 x]
theorem encI_len (x : Nat) : (encI x).length = 1 := rfl
theorem encI_one (x : Nat) : ∀ u ∈ encI x, u.oneCell' = true := by
  intro u hu
  simp only [encI, List.mem_singleton] at hu
  subst hu
  rfl
end Go.Proofs.Ytfljcgehhnmamaa
/- Layer 8, plain: the crossings of a cell, how they are joined, its cycles. No program. -/
namespace Go.Proofs.Ytfljcgehhnmamaa
/-- The place of vertex v, in halves of the side. -/
def cornerP (v : Nat) : Pt := ((2 * (v % 2) : Nat), (2 * (v / 2 % 2) : Nat), (2 * (v / 4 % 2) : Nat))
def midP (u v : Nat) : Pt := (((cornerP u).1 + (cornerP v).1) / 2, ((cornerP u).2.1 + (cornerP v).2.1) / 2, ((cornerP u).2.2 + (cornerP v).2.2) / 2)
def compP (p : Pt) (a : Nat) : Int := if a = 0 then p.1 else if a = 1 then p.2.1 else p.2.2
/-- On which side of the way from p to q vertex v lies. -/
def detJ (p q : Pt) (v axis : Nat) : Int :=
  (compP q ((axis + 1) % 3) - compP p ((axis + 1) % 3)) * (compP (cornerP v) ((axis + 2) % 3) - compP p ((axis + 2) % 3)) - (compP q ((axis + 2) % 3) - compP p ((axis + 2) % 3)) * (compP (cornerP v) ((axis + 1) % 3) - compP p ((axis + 1) % 3))
def sgn (pos : Bool) : Int := if pos then 1 else -1
def joinJ (p q : Pt) (v axis : Nat) (pos : Bool) : Pt × Pt := if 0 < detJ p q v axis * sgn pos then (q, p) else (p, q)
def ringV (axis : Nat) (pos : Bool) (k : Nat) : Nat :=
  (if pos then 2 ^ axis else 0) + (if k % 4 = 1 ∨ k % 4 = 2 then 2 ^ ((axis + 1) % 3) else 0) + (if k % 4 = 2 ∨ k % 4 = 3 then 2 ^ ((axis + 2) % 3) else 0)
/-- The crossings among the first k edges of a ring. -/
def crossN (ins : Nat → Bool) (axis : Nat) (pos : Bool) (k : Nat) : List Pt :=
  ((List.range k).filter fun i => ins (ringV axis pos i) != ins (ringV axis pos (i + 1))).map fun i => midP (ringV axis pos i) (ringV axis pos (i + 1))
/-- The last inside vertex among the first k ones. -/
def lastIn (ins : Nat → Bool) (axis : Nat) (pos : Bool) : Nat → Int
  | 0 => -1
  | k + 1 => if ins (ringV axis pos k) then (ringV axis pos k : Nat) else lastIn ins axis pos k
/-- The joins at the inside vertices among the first k ones. -/
def fourN (ins : Nat → Bool) (axis : Nat) (pos : Bool) (k : Nat) : List (Pt × Pt) :=
  ((List.range k).filter fun i => ins (ringV axis pos i)).map fun i => joinJ (midP (ringV axis pos (i + 3)) (ringV axis pos i)) (midP (ringV axis pos i) (ringV axis pos (i + 1))) (ringV axis pos i) axis pos
def faceJ (ins : Nat → Bool) (axis : Nat) (pos : Bool) : List (Pt × Pt) :=
  match crossN ins axis pos 4 with
  | [p, q] => [joinJ p q (lastIn ins axis pos 4).toNat axis pos]
  | [_, _, _, _] => fourN ins axis pos 4
  | _ => []
def allJ (ins : Nat → Bool) : List (Pt × Pt) := faceJ ins 0 false ++ faceJ ins 0 true ++ (faceJ ins 1 false ++ faceJ ins 1 true) ++ (faceJ ins 2 false ++ faceJ ins 2 true)
/-- What stands at a key behind stores in this order. -/
def lk (ms : List (Pt × Pt)) (p : Pt) : Option Pt := (ms.reverse.find? fun x => decide (x.1 = p)).map (·.2)
theorem lk_snoc (ms : List (Pt × Pt)) (a : Pt × Pt) (p : Pt) : lk (ms ++ [a]) p = if p = a.1 then some a.2 else lk ms p := by
  unfold lk
  rw [List.reverse_append, List.reverse_singleton, List.singleton_append, List.find?_cons]
  by_cases h : p = a.1
  · rw [if_pos h, decide_eq_true h.symm]; rfl
  · rw [if_neg h, decide_eq_false (fun e => h e.symm)]
/-! The reference's way. -/
def placeE (e : Nat) : Pt :=
  (((2 * (e % 2) : Nat) : Int) + (if e / 8 = 0 then 1 else 0), ((2 * (e / 2 % 2) : Nat) : Int) + (if e / 8 = 1 then 1 else 0), ((2 * (e / 4 % 2) : Nat) : Int) + (if e / 8 = 2 then 1 else 0))
def edgeE (v axis : Nat) : Nat := (v - if v / 2 ^ axis % 2 = 1 then 2 ^ axis else 0) + 8 * axis
def rightE (p q v axis : Nat) (pos : Bool) : Bool := if pos then decide (detJ (placeE p) (placeE q) v axis < 0) else decide (0 < detJ (placeE p) (placeE q) v axis)
def joinE (p q v axis : Nat) (pos : Bool) : Nat × Nat := if rightE p q v axis pos then (p, q) else (q, p)
/-- Vertex k of a face. -/
def faceV (axis : Nat) (pos : Bool) (k : Nat) : Nat := (if pos then 2 ^ axis else 0) + k % 2 * 2 ^ ((axis + 1) % 3) + k / 2 * 2 ^ ((axis + 2) % 3)
def crossE1 (ins : Nat → Bool) (axis : Nat) (pos : Bool) (k : Nat) : List Nat :=
  (if k % 2 = 0 ∧ ins (faceV axis pos k) ≠ ins (faceV axis pos k + 2 ^ ((axis + 1) % 3)) then [edgeE (faceV axis pos k) ((axis + 1) % 3)] else []) ++
  (if k / 2 = 0 ∧ ins (faceV axis pos k) ≠ ins (faceV axis pos k + 2 ^ ((axis + 2) % 3)) then [edgeE (faceV axis pos k) ((axis + 2) % 3)] else [])
def crossE (ins : Nat → Bool) (axis : Nat) (pos : Bool) (k : Nat) : List Nat := (List.range k).flatMap (crossE1 ins axis pos)
def lastE (ins : Nat → Bool) (axis : Nat) (pos : Bool) : Nat → Int
  | 0 => -1
  | k + 1 => if ins (faceV axis pos k) then (faceV axis pos k : Nat) else lastE ins axis pos k
def fourE (ins : Nat → Bool) (axis : Nat) (pos : Bool) (k : Nat) : List (Nat × Nat) :=
  ((List.range k).filter fun i => ins (faceV axis pos i)).map fun i => joinE (edgeE (faceV axis pos i) ((axis + 1) % 3)) (edgeE (faceV axis pos i) ((axis + 2) % 3)) (faceV axis pos i) axis pos
def faceE (ins : Nat → Bool) (axis : Nat) (pos : Bool) : List (Nat × Nat) :=
  match crossE ins axis pos 4 with
  | [p, q] => [joinE p q (lastE ins axis pos 4).toNat axis pos]
  | [_, _, _, _] => fourE ins axis pos 4
  | _ => []
def allE (ins : Nat → Bool) : List (Nat × Nat) := faceE ins 0 false ++ faceE ins 0 true ++ (faceE ins 1 false ++ faceE ins 1 true) ++ (faceE ins 2 false ++ faceE ins 2 true)
def nxE (ms : List (Nat × Nat)) (x : Nat) : Int := match (ms.reverse.find? fun y => decide (y.1 = x)) with | some y => (y.2 : Int) | none => -1
/-- From x on, until a crossing was seen. -/
def orbE (nx : Nat → Int) : Nat → List Nat → Nat → List Nat
  | 0, _, _ => []
  | f + 1, seen, x => if 0 ≤ nx x ∧ x ∉ seen then x :: orbE nx f (x :: seen) (nx x).toNat else []
def cycE (nx : Nat → Int) : List Nat → List Nat → List (List Nat)
  | [], _ => []
  | e :: es, seen => let l := orbE nx 25 seen e
    (if l.isEmpty then [] else [l]) ++ cycE nx es (l ++ seen)
def cyclesP (ins : Nat → Bool) : List (List Pt) := (cycE (nxE (allE ins)) (List.range 24) []).map fun l => l.map placeE
def insL (l : List Bool) (v : Nat) : Bool := l.getD v false
def chk (l : List Bool) : Bool :=
  let J := allJ (insL l)
  let CS := cyclesP (insL l)
  decide ((J.map (·.1)).Nodup) && decide (CS.flatten.Nodup) && CS.all (fun C => decide (3 ≤ C.length)) &&
  CS.all (fun C => (List.range C.length).all fun k => decide (lk J (C.getD k (0, 0, 0)) = some (C.getD ((k + 1) % C.length) (0, 0, 0)))) &&
  J.all (fun x => decide (x.1 ∈ CS.flatten)) && (l.contains true && l.contains false || CS.isEmpty)
end Go.Proofs.Ytfljcgehhnmamaa
/- Numbers of any size as digits to the base 65536, and as bytes; plain. No program. -/
namespace Go.Proofs.Ytfljcgehhnmamaa
def valD : List Nat → Nat
  | [] => 0
  | d :: l => d + 65536 * valD l
def okD (l : List Nat) : Prop := ∀ d ∈ l, d < 65536
/-- No zeros at the end. -/
def trimD : List Nat → List Nat
  | [] => []
  | d :: l => match trimD l with
    | [] => if d = 0 then [] else [d]
    | e :: m => d :: e :: m
theorem valD_app (l m : List Nat) : valD (l ++ m) = valD l + 65536 ^ l.length * valD m := by
  induction l with
  | nil => simp [valD]
  | cons d l ih =>
    rw [List.cons_append, valD, valD, ih, List.length_cons, Nat.pow_succ, Nat.mul_add, Nat.add_assoc, ← Nat.mul_assoc, Nat.mul_comm 65536 (65536 ^ l.length)]
theorem valD_lt {l : List Nat} (h : okD l) : valD l < 65536 ^ l.length := by
  induction l with
  | nil => simp [valD]
  | cons d l ih =>
    have h1 := h d (by simp)
    have h2 := ih fun x hx => h x (by simp [hx])
    rw [valD, List.length_cons, Nat.pow_succ]
    omega
theorem valD_trim (l : List Nat) : valD (trimD l) = valD l := by
  induction l with
  | nil => rfl
  | cons d l ih =>
    unfold trimD
    split
    · rename_i h
      rw [h] at ih
      have h0 : valD l = 0 := ih.symm
      split
      · rename_i hd; show 0 = d + 65536 * valD l; omega
      · show d + 65536 * 0 = d + 65536 * valD l; rw [h0]
    · rename_i e m h
      rw [h] at ih
      rw [valD, ih, valD]
theorem trim_ok {l : List Nat} (h : okD l) : okD (trimD l) := by
  induction l with
  | nil => exact h
  | cons d l ih =>
    have h2 := ih fun x hx => h x (by simp [hx])
    have h1 := h d (by simp)
    unfold trimD
    split
    · split
      · intro x hx; cases hx
      · intro x hx; rw [List.mem_singleton.1 hx]; exact h1
    · rename_i e m he
      rw [he] at h2
      intro x hx
      rcases List.mem_cons.1 hx with rfl | hx
      · exact h1
      · exact h2 x hx
theorem trim_snoc0 (l : List Nat) : trimD (l ++ [0]) = trimD l := by
  induction l with
  | nil => rfl
  | cons d l ih => rw [List.cons_append, trimD, trimD, ih]
theorem trim_snoc (l : List Nat) {d : Nat} (hd : d ≠ 0) : trimD (l ++ [d]) = l ++ [d] := by
  induction l with
  | nil => simp [trimD, hd]
  | cons e l ih =>
    rw [List.cons_append, trimD, ih]
    cases l <;> rfl
theorem trim_take {l : List Nat} : ∀ m, m ≤ l.length → (∀ i, m ≤ i → i < l.length → l[i]? = some 0) → trimD (l.take m) = trimD l := by
  intro m hm hz
  obtain ⟨j, hj⟩ : ∃ j, l.length = m + j := ⟨l.length - m, by omega⟩
  induction j generalizing m with
  | zero => rw [List.take_of_length_le (by omega)]
  | succ j ih =>
    have h1 := ih (m + 1) (by omega) (fun i hi => hz i (by omega)) (by omega)
    rw [← h1, List.take_add_one, hz m (Nat.le_refl _) (by omega), Option.toList_some, trim_snoc0]
/-- Trimmed lists: nothing, or no zero at the end. -/
theorem trim_self {l : List Nat} (h : trimD l = l) (hne : l ≠ []) : ∃ m d, l = m ++ [d] ∧ d ≠ 0 := by
  obtain ⟨m, d, rfl⟩ : ∃ m d, l = m ++ [d] := ⟨l.dropLast, l.getLast hne, (List.dropLast_concat_getLast hne).symm⟩
  refine ⟨m, d, rfl, fun hd => ?_⟩
  subst hd
  rw [trim_snoc0] at h
  have h2 : (trimD m).length ≤ m.length := by
    clear h hne
    induction m with
    | nil => exact Nat.le_refl _
    | cons e m ih =>
      unfold trimD
      split
      · split <;> simp
      · rename_i x y hx; rw [hx] at ih; simp only [List.length_cons] at ih ⊢; omega
  have := congrArg List.length h
  rw [List.length_append, List.length_singleton] at this
  omega
theorem trim_trim (l : List Nat) : trimD (trimD l) = trimD l := by
  induction l with
  | nil => rfl
  | cons d l ih =>
    cases h : trimD l with
    | nil =>
      have e : trimD (d :: l) = if d = 0 then [] else [d] := by rw [trimD, h]
      rw [e]
      split
      · rfl
      · rename_i hd; simp [trimD, hd]
    | cons x m =>
      have e : trimD (d :: l) = d :: x :: m := by rw [trimD, h]
      rw [h] at ih
      rw [e, trimD, ih]
theorem val_zero {l : List Nat} (h : trimD l = l) (h0 : valD l = 0) : l = [] := by
  by_cases hne : l = []
  · exact hne
  · obtain ⟨m, d, rfl, hd⟩ := trim_self h hne
    rw [valD_app] at h0
    have hp : 0 < 65536 ^ m.length := Nat.pow_pos (by omega)
    have h1 : 65536 ^ m.length * valD [d] = 0 := by omega
    rcases Nat.mul_eq_zero.1 h1 with h2 | h2
    · omega
    · simp [valD] at h2; exact absurd h2 hd
/-! Bytes. -/
/-- The bytes, the least significant one first; no zero at the end if the digits have none. -/
def bytesD : List Nat → List Nat
  | [] => []
  | [d] => if 256 ≤ d then [d % 256, d / 256] else [d]
  | d :: e :: l => d % 256 :: d / 256 :: bytesD (e :: l)
theorem bytesD_cons (d : Nat) {l : List Nat} (h : l ≠ []) : bytesD (d :: l) = d % 256 :: d / 256 :: bytesD l := by
  cases l with
  | nil => exact absurd rfl h
  | cons e l => rfl
theorem bytesD_len : ∀ l : List Nat, l ≠ [] → (bytesD l).length = 2 * l.length ∨ (bytesD l).length + 1 = 2 * l.length
  | [], h => absurd rfl h
  | [d], _ => by unfold bytesD; split <;> simp
  | d :: e :: l, _ => by
    have := bytesD_len (e :: l) (by simp)
    rw [bytesD_cons d (by simp)]
    simp only [List.length_cons] at this ⊢
    omega
theorem bytesD_low : ∀ (l : List Nat), okD l → ∀ k d, l[k]? = some d → (bytesD l)[2 * k]? = some (if 2 * k + 1 < (bytesD l).length then d % 256 else d) ∧ (2 * k + 1 < (bytesD l).length → (bytesD l)[2 * k + 1]? = some (d / 256)) ∧ (¬ 2 * k + 1 < (bytesD l).length → d < 256)
  | [], _, k, d, h => by simp at h
  | [e], ho, 0, d, h => by
    simp only [List.getElem?_cons_zero, Option.some.injEq] at h
    subst h
    unfold bytesD
    by_cases h : 256 ≤ e
    · rw [if_pos h]; simp
    · rw [if_neg h]; simp; omega
  | [e], _, k + 1, d, h => by simp at h
  | e :: f :: l, ho, 0, d, h => by
    simp only [List.getElem?_cons_zero, Option.some.injEq] at h
    subst h
    rw [bytesD_cons e (by simp)]
    simp
  | e :: f :: l, ho, k + 1, d, h => by
    have ih := bytesD_low (f :: l) (fun x hx => ho x (by simp [hx])) k d (by simpa using h)
    rw [bytesD_cons e (by simp)]
    simp only [List.length_cons, show 2 * (k + 1) = 2 * k + 1 + 1 by omega, List.getElem?_cons_succ, Nat.add_lt_add_iff_right] at ih ⊢
    refine ⟨?_, ?_, ?_⟩
    · rw [ih.1]
    · intro hc; exact ih.2.1 (by omega)
    · intro hc; exact ih.2.2 (by omega)
theorem bytesD_lt {l : List Nat} (h : okD l) : ∀ b ∈ bytesD l, b < 256 := by
  intro b hb
  obtain ⟨i, hi⟩ := List.mem_iff_getElem?.1 hb
  have hil : i < (bytesD l).length := (List.getElem?_eq_some_iff.1 hi).1
  by_cases hne : l = []
  · subst hne; cases hb
  · have hl := bytesD_len l hne
    have hk : i / 2 < l.length := by omega
    obtain ⟨d, hd⟩ : ∃ d, l[i / 2]? = some d := ⟨_, List.getElem?_eq_getElem hk⟩
    have hd6 := h d (List.mem_of_getElem? hd)
    obtain ⟨h1, h2, h3⟩ := bytesD_low l h _ _ hd
    have hc : i = 2 * (i / 2) ∨ i = 2 * (i / 2) + 1 := by omega
    rcases hc with hc | hc
    · rw [hc, h1] at hi
      cases hi
      split
      · omega
      · exact h3 (by assumption)
    · rw [hc, h2 (by omega)] at hi
      cases hi
      omega
/-! Signed. -/
def intD (neg : Bool) (l : List Nat) : Int := if neg then -(valD l : Int) else (valD l : Int)
end Go.Proofs.Ytfljcgehhnmamaa
/- Six times a surface's volume, plain. No program. -/
namespace Go.Proofs.Ytfljcgehhnmamaa
def detP (p q r : Pt) : Int := p.1 * (q.2.1 * r.2.2 - q.2.2 * r.2.1) + p.2.1 * (q.2.2 * r.1 - q.1 * r.2.2) + p.2.2 * (q.1 * r.2.1 - q.2.1 * r.1)
def detT (t : Tri) : Int := detP t.1 t.2.1 t.2.2
def volP (C : List Tri) : Int := (C.map detT).foldl (· + ·) 0
theorem volP_snoc (C : List Tri) (t : Tri) : volP (C ++ [t]) = volP C + detT t := by
  unfold volP
  rw [List.map_append, List.foldl_append]
  rfl
theorem volP_take {C : List Tri} {k : Nat} {t : Tri} (h : C[k]? = some t) : volP (C.take (k + 1)) = volP (C.take k) + detT t := by
  rw [List.take_add_one, h, Option.toList_some, volP_snoc]
theorem foldl_addI (l : List Int) (a : Int) : l.foldl (· + ·) a = a + l.foldl (· + ·) 0 := by
  induction l generalizing a with
  | nil => simp
  | cons x l ih =>
    rw [List.foldl_cons, List.foldl_cons, ih (a + x), ih (0 + x)]
    omega
theorem volP_cons (t : Tri) (C : List Tri) : volP (t :: C) = detT t + volP C := by
  unfold volP
  rw [List.map_cons, List.foldl_cons, foldl_addI]
  omega
theorem volP_append (A B : List Tri) : volP (A ++ B) = volP A + volP B := by
  induction A with
  | nil => simp [volP]
  | cons t A ih => rw [List.cons_append, volP_cons, volP_cons, ih]; omega
theorem volP_perm {A B : List Tri} (h : A.Perm B) : volP A = volP B := by
  induction h with
  | nil => rfl
  | cons x _ ih => rw [volP_cons, volP_cons, ih]
  | swap x y l => rw [volP_cons, volP_cons, volP_cons, volP_cons]; omega
  | trans _ _ a b => exact a.trans b
end Go.Proofs.Ytfljcgehhnmamaa
