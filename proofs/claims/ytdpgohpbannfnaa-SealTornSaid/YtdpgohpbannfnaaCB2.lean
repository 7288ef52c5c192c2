/- Joined texts: Kit EncI SeaP SeaQ SeaR SeaS SeaT SeaU SeaV SeaW SeaX SeaY SeaZ S7P S7U S8P S8Q S8R. -/
import Derived.WalkKit
import Derived.WalkSpells
import Derived.WalkLawsBesides
import Derived.Laws.OwnMore
import Derived.Deep.AppendLies
import Derived.Deep.Draws
/- Words for slices of points, triangles and other rows, over any program. Nothing of a dump is named here. -/
namespace Go.Proofs.Ytdpgohpbannfnaa
open Go.RowKit

abbrev Pt := Int × Int × Int
abbrev Tri := Pt × Pt × Pt

abbrev vi (x : Int) : Value := .int .i64 x
def encP (p : Pt) : List Value := [.int .i64 p.1, .int .i64 p.2.1, .int .i64 p.2.2]
def encT (t : Tri) : List Value := [.int .i64 t.1.1, .int .i64 t.1.2.1, .int .i64 t.1.2.2, .int .i64 t.2.1.1, .int .i64 t.2.1.2.1, .int .i64 t.2.1.2.2, .int .i64 t.2.2.1, .int .i64 t.2.2.2.1, .int .i64 t.2.2.2.2]
abbrev vP (p : Pt) : Value := .agg #[.int .i64 p.1, .int .i64 p.2.1, .int .i64 p.2.2]
abbrev vT (t : Tri) : Value := .agg #[.int .i64 t.1.1, .int .i64 t.1.2.1, .int .i64 t.1.2.2, .int .i64 t.2.1.1, .int .i64 t.2.1.2.1, .int .i64 t.2.1.2.2, .int .i64 t.2.2.1, .int .i64 t.2.2.2.1, .int .i64 t.2.2.2.2]

theorem add_none (b o n : Nat) : (Addr.add ⟨b, o, none⟩ n) = ⟨b, o + n, none⟩ := by
  unfold Addr.add; split
  · subst_vars; rfl
  · rfl

/-- The slice at A reads, in w, as xs: each element is the k cells of 'enc'; all below block B. -/
def Sl {α : Type} (enc : α → List Value) (k : Nat) (w : World) (B : Nat) (A : Option Addr) (xs : List α) : Prop :=
  (xs = [] ∧ A = none) ∨ ∃ b o, A = some ⟨b, o, none⟩ ∧ b < B ∧ ∀ i x, xs[i]? = some x → ∀ j u, (enc x)[j]? = some u → w.cell? ⟨b, o + i * k + j, none⟩ = some u

section
variable {α : Type} {enc : α → List Value} {k : Nat} {w w' : World} {B B' : Nat} {A : Option Addr} {xs : List α}
theorem Sl.nil : Sl enc k w B none ([] : List α) := .inl ⟨rfl, rfl⟩
theorem Sl.keep (h : Sl enc k w B A xs) (hk : ∀ p : Addr, p.block < B → w'.cell? p = w.cell? p) : Sl enc k w' B A xs := by
  rcases h with h | ⟨b, o, ha, hb, hc⟩
  · exact .inl h
  · exact .inr ⟨b, o, ha, hb, fun i x hx j u hu => (hk ⟨b, _, none⟩ hb).trans (hc i x hx j u hu)⟩
theorem Sl.more (h : Sl enc k w B A xs) (hB : B ≤ B') : Sl enc k w B' A xs := by
  rcases h with h | ⟨b, o, ha, hb, hc⟩
  · exact .inl h
  · exact .inr ⟨b, o, ha, by omega, hc⟩
theorem Sl.below (h : Sl enc k w B A xs) (hb : Below B w w') : Sl enc k w' B A xs := h.keep fun _ hp => hb.cell hp
/-- Where an element lies. -/
theorem Sl.at {i : Nat} {x : α} (h : Sl enc k w B A xs) (hi : xs[i]? = some x) : ∃ b o, A = some ⟨b, o, none⟩ ∧ b < B ∧ ∀ j u, (enc x)[j]? = some u → w.cell? ⟨b, o + i * k + j, none⟩ = some u := by
  rcases h with ⟨h, _⟩ | ⟨b, o, ha, hb, hc⟩
  · subst h; simp at hi
  · exact ⟨b, o, ha, hb, hc i x hi⟩
end
/-- A triangle's nine cells. -/
def CellsT (w : World) (b o : Nat) (t : Tri) : Prop :=
  w.cell? ⟨b, o, none⟩ = some (.int .i64 t.1.1) ∧ w.cell? ⟨b, o + 1, none⟩ = some (.int .i64 t.1.2.1) ∧ w.cell? ⟨b, o + 2, none⟩ = some (.int .i64 t.1.2.2) ∧
  w.cell? ⟨b, o + 3, none⟩ = some (.int .i64 t.2.1.1) ∧ w.cell? ⟨b, o + 4, none⟩ = some (.int .i64 t.2.1.2.1) ∧ w.cell? ⟨b, o + 5, none⟩ = some (.int .i64 t.2.1.2.2) ∧
  w.cell? ⟨b, o + 6, none⟩ = some (.int .i64 t.2.2.1) ∧ w.cell? ⟨b, o + 7, none⟩ = some (.int .i64 t.2.2.2.1) ∧ w.cell? ⟨b, o + 8, none⟩ = some (.int .i64 t.2.2.2.2)
theorem Sl.tri {w : World} {B : Nat} {A : Option Addr} {ts : List Tri} (h : Sl encT 9 w B A ts) {i : Nat} {t : Tri} (hi : ts[i]? = some t) :
    ∃ b o, A = some ⟨b, o, none⟩ ∧ b < B ∧ CellsT w b (o + i * 9) t := by
  obtain ⟨b, o, ha, hb, hc⟩ := h.at hi
  exact ⟨b, o, ha, hb, hc 0 _ rfl, hc 1 _ rfl, hc 2 _ rfl, hc 3 _ rfl, hc 4 _ rfl, hc 5 _ rfl, hc 6 _ rfl, hc 7 _ rfl, hc 8 _ rfl⟩

/-- A block that is known whole, none of it frozen. -/
def Blk (w : World) (g : Nat) (t : TypeId) (cs : Array Value) : Prop := w.heap[g]? = some (.cells cs t (0, 0))
section
variable {w w' : World} {g : Nat} {t : TypeId} {cs : Array Value}
theorem Blk.lt (h : Blk w g t cs) : g < w.heap.size := by
  rcases Nat.lt_or_ge g w.heap.size with hlt | hge
  · exact hlt
  · unfold Blk at h; rw [Array.getElem?_eq_none hge] at h; cases h
theorem Blk.cell (h : Blk w g t cs) (i : Nat) : w.cell? ⟨g, i, none⟩ = cs[i]? := cell_of_row w g i cs t (0, 0) h
theorem Blk.frozen (h : Blk w g t cs) (i : Nat) : w.frozen? ⟨g, i, none⟩ = false := by
  unfold Blk at h
  simp [World.frozen?, h]
theorem Blk.new (w : World) (t : TypeId) (cs : Array Value) : Blk (w.alloc (.cells cs t)) w.heap.size t cs := heap_alloc_new w _
theorem Blk.new' (w : World) (t : TypeId) (cs : Array Value) (g : Nat) (hg : g = w.heap.size) : Blk (w.alloc (.cells cs t)) g t cs := by subst hg; exact Blk.new w t cs
theorem Blk.drew (h : Blk w g t cs) : Blk w.drew g t cs := h
theorem Blk.drewN (h : Blk w g t cs) (n : Nat) : Blk (w.drewN n) g t cs := h
theorem Blk.alloc (h : Blk w g t cs) (o : Obj) : Blk (w.alloc o) g t cs := (Below.heap_alloc w o g h.lt).trans h
theorem Blk.set_ (h : Blk w g t cs) (i : Nat) (u : Value) : Blk (w.setCell ⟨g, i, none⟩ u) g t (cs.setIfInBounds i u) := by
  unfold Blk at h ⊢
  simp [World.setCell, Array.getElem?_modify, h]
theorem Blk.far (h : Blk w g t cs) {p : Addr} (hp : g ≠ p.block) (u : Value) : Blk (w.setCell p u) g t cs := (Below.heap_setCell w p u g hp).trans h
theorem Blk.set3 {a b c : Value} (h : Blk w g t #[a, b, c]) (x y z : Value) : Blk (((w.setCell ⟨g, 0, none⟩ x).setCell ⟨g, 1, none⟩ y).setCell ⟨g, 2, none⟩ z) g t #[x, y, z] :=
  ((h.set_ 0 x).set_ 1 y).set_ 2 z
theorem Blk.far3 (h : Blk w g t cs) {g' : Nat} (hg : g ≠ g') (x y z : Value) : Blk (((w.setCell ⟨g', 0, none⟩ x).setCell ⟨g', 1, none⟩ y).setCell ⟨g', 2, none⟩ z) g t cs :=
  ((h.far (p := ⟨g', 0, none⟩) hg x).far (p := ⟨g', 1, none⟩) hg y).far (p := ⟨g', 2, none⟩) hg z
theorem Blk.below {B : Nat} (h : Blk w g t cs) (hb : Below B w w') (hg : g < B) : Blk w' g t cs := (hb.block g hg).trans h
theorem Blk.grown {row : Option Nat} (h : Blk w g t cs) (hb : w.grownBy w' row) (hg : some g ≠ row) : Blk w' g t cs := (hb.block g h.lt hg).trans h
end
theorem bcell {B : Nat} {W w1 : World} (hb : Below B W w1) : (∀ b o, b < B → w1.cell? ⟨b, o, none⟩ = W.cell? ⟨b, o, none⟩) ∧ (∀ b o, b < B → w1.frozen? ⟨b, o, none⟩ = W.frozen? ⟨b, o, none⟩) :=
  ⟨fun b o h => hb.cell (p := ⟨b, o, none⟩) h, fun b o h => hb.frozen (p := ⟨b, o, none⟩) h⟩
theorem below_drewN {B : Nat} {a w : World} (h : Below B a w) (n : Nat) : Below B a (w.drewN n) := ⟨h.os, h.tape, h.output, h.size, h.block⟩
theorem hide {p : Prop} (h : p) : Hid p := h
theorem unhide {p : Prop} (h : Hid p) : p := h
end Go.Proofs.Ytdpgohpbannfnaa
/- Integers as elements. No dump is named. -/
namespace Go.Proofs.Ytdpgohpbannfnaa
def encI (x : Nat) : List Value := [.int .i64 x]
theorem encI_len (x : Nat) : (encI x).length = 1 := rfl
theorem encI_one (x : Nat) : ∀ u ∈ encI x, u.oneCell' = true := by
  intro u hu
  simp only [encI, List.mem_singleton] at hu
  subst hu
  rfl
end Go.Proofs.Ytdpgohpbannfnaa
/- Layer 7, plain: edges and faces of a grid, sets of edges, odd faces, components, patches, what is inside. No program. -/
namespace Go.Proofs.Ytdpgohpbannfnaa
/-- An edge or a face: the axis and the coordinates. -/
abbrev EF := Int × Pt
def cmp3 (p : Pt) (a : Int) : Int := if a = 0 then p.1 else if a = 1 then p.2.1 else p.2.2
def set3 (p : Pt) (a v : Int) : Pt := if a = 0 then (v, p.2.1, p.2.2) else if a = 1 then (p.1, v, p.2.2) else (p.1, p.2.1, v)
def add3 (p : Pt) (a v : Int) : Pt := set3 p a (cmp3 p a + v)
/-- An inner edge. -/
def innE (n : Int) (e : EF) : Bool := decide (0 ≤ e.1 ∧ e.1 < 3) && (decide (0 ≤ e.2.1 ∧ e.2.1 < n ∧ (e.1 = 0 ∨ e.2.1 ≠ 0)) && (decide (0 ≤ e.2.2.1 ∧ e.2.2.1 < n ∧ (e.1 = 1 ∨ e.2.2.1 ≠ 0)) && decide (0 ≤ e.2.2.2 ∧ e.2.2.2 < n ∧ (e.1 = 2 ∨ e.2.2.2 ≠ 0))))
def togE (E : EF → Bool) (x : EF) : EF → Bool := fun e => if e = x then !E e else E e
def xorE (E T : EF → Bool) : EF → Bool := fun e => E e != T e
def noE : EF → Bool := fun _ => false
def togsE (E : EF → Bool) (l : List EF) : EF → Bool := l.foldl togE E
def givE (n : Int) (l : List EF) : EF → Bool := togsE noE (l.filter (innE n))
/-- Whether a face is odd. -/
def oddF (E : EF → Bool) (f : EF) : Bool :=
  (E ((f.1 + 1) % 3, f.2) != E ((f.1 + 1) % 3, add3 f.2 ((f.1 + 2) % 3) 1)) != (E ((f.1 + 2) % 3, f.2) != E ((f.1 + 2) % 3, add3 f.2 ((f.1 + 1) % 3) 1))
/-- A face of the grid. -/
def grdF (n : Int) (f : EF) : Prop := (0 ≤ f.1 ∧ f.1 < 3) ∧ (0 ≤ f.2.1 ∧ 0 ≤ f.2.2.1 ∧ 0 ≤ f.2.2.2) ∧ (f.2.1 ≤ n ∧ f.2.2.1 ≤ n ∧ f.2.2.2 ≤ n) ∧ ((f.1 = 0 ∨ f.2.1 < n) ∧ (f.1 = 1 ∨ f.2.2.1 < n) ∧ (f.1 = 2 ∨ f.2.2.2 < n))
/-- The order of faces. -/
def ltF (f g : EF) : Bool := decide (f.1 < g.1) || (decide (f.1 = g.1) && (decide (f.2.2.2 < g.2.2.2) || (decide (f.2.2.2 = g.2.2.2) && (decide (f.2.2.1 < g.2.2.1) || (decide (f.2.2.1 = g.2.2.1) && decide (f.2.1 < g.2.1))))))
/-- Vertex k of a grid of s vertices in each direction. -/
def vtxS (s k : Nat) : Pt := (((k % s : Nat) : Int), ((k / s % s : Nat) : Int), ((k / s / s : Nat) : Int))
/-- The odd faces of one axis among the first m vertices. -/
def oddA (E : EF → Bool) (s : Nat) (a : Nat) (m : Nat) : List EF :=
  ((List.range m).filter fun k => decide (cmp3 (vtxS s k) (((a : Int) + 1) % 3) < (s : Int) - 1) && (decide (cmp3 (vtxS s k) (((a : Int) + 2) % 3) < (s : Int) - 1) && oddF E (a, vtxS s k))).map fun k => ((a : Int), vtxS s k)
def oddL (E : EF → Bool) (s : Nat) : List EF := oddA E s 0 (s * s * s) ++ (oddA E s 1 (s * s * s) ++ oddA E s 2 (s * s * s))
/-! Components. -/
def cellsF (f : EF) : List Pt := [f.2, add3 f.2 f.1 (-1)]
def touch (f g : EF) : Bool := (cellsF f).any fun p => (cellsF g).any fun q => decide (p = q)
/-- f is connected with g through l. -/
def Conn (l : List EF) (f g : EF) : Prop := ∀ S : EF → Prop, S f → (∀ a b, S a → b ∈ l → touch a b = true → S b) → S g
noncomputable def connB (l : List EF) (f g : EF) : Bool := @decide (Conn l f g) (Classical.propDecidable _)
noncomputable def compF (l : List EF) (f : EF) : List EF := l.filter (connB l f)
noncomputable def headB (l : List EF) (f : EF) : Bool := decide ((compF l f).head? = some f)
noncomputable def partsF (l : List EF) : List (List EF) := (l.filter (headB l)).map (compF l)
/-! Patches. -/
def dirA (d : Nat) : Int := ((d / 2 : Nat) : Int)
def lowD (d : Nat) (f : EF) : Int := if d % 2 = 1 then cmp3 f.2 (dirA d) + 1 else 0
def highD (n : Int) (d : Nat) (f : EF) : Int := if d % 2 = 1 then n else cmp3 f.2 (dirA d)
/-- The edges of a face's row from low on, m of them. -/
def rowE (d : Nat) (f : EF) (low : Int) (m : Nat) : List EF := (List.range m).map fun i : Nat => (3 - dirA d - f.1, set3 f.2 (dirA d) (low + (i : Int)))
def patF (n : Int) (d : Nat) (f : EF) : List EF := if f.1 = dirA d then [] else rowE d f (lowD d f) (highD n d f + 1 - lowD d f).toNat
def patL (n : Int) (d : Nat) (part : List EF) : List EF := part.flatMap (patF n d)
def patE (n : Int) (d : Nat) (part : List EF) : EF → Bool := togsE noE (patL n d part)
/-- The edges of a list of s vertices in each direction, by number. -/
def edgS (s k : Nat) : EF := (((k / (s * s * s) : Nat) : Int), vtxS s (k % (s * s * s)))
def allE (s : Nat) : List EF := (List.range (3 * (s * s * s))).map (edgS s)
def cntE (s : Nat) (E : EF → Bool) : Nat := (allE s).countP E
/-- The first of the least ones among 0 to k. -/
def bestN (z : Nat → Nat) : Nat → Nat
  | 0 => 0
  | k + 1 => if z (k + 1) < z (bestN z k) then k + 1 else bestN z k
def sizD (n : Nat) (part : List EF) (d : Nat) : Nat := cntE (n + 1) (patE n d part)
def dirP (n : Nat) (part : List EF) : Nat := bestN (sizD n part) 5
/-- A patch: the least face, the direction, the size. -/
abbrev Pch := EF × Nat × Nat
def pchP (n : Nat) (part : List EF) : Pch := (part.headD (0, 0, 0, 0), dirP n part, sizD n part (dirP n part))
def sealN (n : Nat) (E : EF → Bool) (ps : List (List EF)) : EF → Bool := ps.foldl (fun E part => xorE E (patE n (dirP n part) part)) E
/-- What the edges separate from the first vertex, along x, y, z. -/
def xorN (f : Nat → Bool) : Nat → Bool
  | 0 => false
  | k + 1 => xorN f k != f k
def insV (E : EF → Bool) (x y z : Nat) : Bool := (xorN (fun i => E (0, (i : Int), 0, 0)) x != xorN (fun i => E (1, (x : Int), (i : Int), 0)) y) != xorN (fun i => E (2, (x : Int), (y : Int), (i : Int))) z
def bdV (n x y z : Nat) : Bool := decide (x = 0 ∨ y = 0 ∨ z = 0 ∨ x = n ∨ y = n ∨ z = n)
def insL7 (E : EF → Bool) (n m : Nat) : List Bool := (List.range m).map fun k => insV E (k % (n + 1)) (k / (n + 1) % (n + 1)) (k / (n + 1) / (n + 1)) && !bdV n (k % (n + 1)) (k / (n + 1) % (n + 1)) (k / (n + 1) / (n + 1))
/-- Odd, and what Seal answers. -/
def oddP (n : Nat) (l : List EF) : List EF := oddL (givE n l) (n + 1)
noncomputable def pchsP (n : Nat) (l : List EF) : List Pch := (partsF (oddP n l)).map (pchP n)
noncomputable def endE (n : Nat) (l : List EF) : EF → Bool := sealN n (givE n l) (partsF (oddP n l))
noncomputable def fldP (n : Nat) (l : List EF) : List Bool := insL7 (endE n l) n ((n + 1) * (n + 1) * (n + 1))
/-! Toggles. -/
theorem togE_self (E : EF → Bool) (x : EF) : togE E x x = !E x := if_pos rfl
theorem togE_ne (E : EF → Bool) {x e : EF} (h : e ≠ x) : togE E x e = E e := if_neg h
theorem togsE_xor (E : EF → Bool) (l : List EF) : togsE E l = xorE E (togsE noE l) := by
  induction l generalizing E with
  | nil => funext e; simp [togsE, xorE, noE]
  | cons x l ih =>
    have h1 : togsE E (x :: l) = togsE (togE E x) l := rfl
    have h2 : togsE noE (x :: l) = togsE (togE noE x) l := rfl
    rw [h1, h2, ih (togE E x), ih (togE noE x)]
    funext e
    unfold xorE togE noE
    split <;> simp <;> cases E e <;> cases togsE noE l e <;> rfl
theorem togsE_append (E : EF → Bool) (l m : List EF) : togsE E (l ++ m) = togsE (togsE E l) m := by unfold togsE; rw [List.foldl_append]
theorem togsE_off {E : EF → Bool} {l : List EF} {e : EF} (h : e ∉ l) : togsE E l e = E e := by
  induction l generalizing E with
  | nil => rfl
  | cons x l ih =>
    rw [show togsE E (x :: l) = togsE (togE E x) l from rfl, ih fun hm => h (by simp [hm]), togE_ne _ fun he => h (by simp [he])]
theorem togsE_mem {l : List EF} {e : EF} (h : togsE noE l e = true) : e ∈ l := by
  rcases Classical.em (e ∈ l) with hm | hm
  · exact hm
  · rw [togsE_off hm] at h; cases h
theorem givE_inn {n : Int} {l : List EF} {e : EF} (h : givE n l e = true) : innE n e = true := (List.mem_filter.1 (togsE_mem h)).2
theorem givE_snoc (n : Int) (l : List EF) (x : EF) : givE n (l ++ [x]) = if innE n x = true then togE (givE n l) x else givE n l := by
  unfold givE
  rw [List.filter_append, togsE_append]
  split
  · rename_i h; rw [List.filter_cons_of_pos h]; rfl
  · rename_i h; rw [List.filter_cons_of_neg h]; rfl
/-- What is toggled once each. -/
theorem togsE_nodup {l : List EF} (h : l.Nodup) (e : EF) : togsE noE l e = decide (e ∈ l) := by
  have key : ∀ (l : List EF) (E : EF → Bool), l.Nodup → togsE E l e = (E e != decide (e ∈ l)) := by
    intro l
    induction l with
    | nil => intro E _; simp [togsE]
    | cons x l ih =>
      intro E hn
      have hc := List.nodup_cons.1 hn
      rw [show togsE E (x :: l) = togsE (togE E x) l from rfl, ih _ hc.2]
      by_cases hx : e = x
      · subst hx
        rw [togE_self, decide_eq_false hc.1, decide_eq_true (List.mem_cons_self)]
        cases E e <;> rfl
      · rw [togE_ne _ hx]
        congr 1
        simp [hx]
  rw [key l noE h]
  simp [noE]
/-! Faces and edges. -/
theorem oddF_xor (E T : EF → Bool) (f : EF) : oddF (xorE E T) f = (oddF E f != oddF T f) := by
  unfold oddF xorE
  generalize E _ = a1
  generalize T _ = b1
  generalize E _ = a2
  generalize T _ = b2
  generalize E _ = a3
  generalize T _ = b3
  generalize E _ = a4
  generalize T _ = b4
  revert a1 b1 a2 b2 a3 b3 a4 b4
  decide
end Go.Proofs.Ytdpgohpbannfnaa
/- Layer 7, plain: each cell has an even number of odd faces; what a patch does to faces; ways between vertices. No program. -/
namespace Go.Proofs.Ytdpgohpbannfnaa
/-! Coordinates. -/
theorem cmp3_set (p : Pt) (a v : Int) : cmp3 (set3 p a v) a = v := by unfold cmp3 set3; split <;> (try split) <;> simp_all
theorem set3_set (p : Pt) (a v u : Int) : set3 (set3 p a v) a u = set3 p a u := by unfold set3; split <;> (try split) <;> simp_all
theorem set3_cmp (p : Pt) (a : Int) : set3 p a (cmp3 p a) = p := by unfold cmp3 set3; split <;> (try split) <;> simp_all
/-! Parity. -/
def par (k : Nat) : Bool := decide (k % 2 = 1)
theorem par_add (j k : Nat) : par (j + k) = (par j != par k) := by
  unfold par
  have h1 : j % 2 = 0 ∨ j % 2 = 1 := by omega
  have h2 : k % 2 = 0 ∨ k % 2 = 1 := by omega
  rw [Nat.add_mod]
  rcases h1 with h1 | h1 <;> rcases h2 with h2 | h2 <;> rw [h1, h2] <;> rfl
theorem xorN_par (f : Nat → Bool) : ∀ n, xorN f n = par ((List.range n).countP f)
  | 0 => rfl
  | n + 1 => by
    rw [xorN, xorN_par f n, List.range_succ, List.countP_append, par_add, List.countP_singleton]
    cases f n <;> rfl
theorem xorN_congr {f g : Nat → Bool} : ∀ {n}, (∀ i, i < n → f i = g i) → xorN f n = xorN g n
  | 0, _ => rfl
  | n + 1, h => by rw [xorN, xorN, xorN_congr (n := n) fun i hi => h i (by omega), h n (by omega)]
theorem xorN_ge (f : Nat → Bool) (k : Nat) : ∀ m, xorN (fun y => f y && decide (k ≤ y)) (k + m) = (xorN f k != xorN f (k + m))
  | 0 => by
    rw [Nat.add_zero, xorN_congr (g := fun _ => false) fun i hi => by simp; omega]
    have : ∀ n, xorN (fun _ => false) n = false := fun n => by
      induction n with
      | zero => rfl
      | succ n ih => rw [xorN, ih]; rfl
    rw [this]; simp
  | m + 1 => by
    rw [← Nat.add_assoc, xorN, xorN, xorN_ge f k m]
    rw [decide_eq_true (show k ≤ k + m by omega)]
    cases xorN f k <;> cases xorN f (k + m) <;> cases f (k + m) <;> rfl
theorem xorN_lt (f : Nat → Bool) (k : Nat) : ∀ m, xorN (fun y => f y && decide (y < k)) (k + m) = xorN f k
  | 0 => by rw [Nat.add_zero]; exact xorN_congr fun i hi => by rw [decide_eq_true hi, Bool.and_true]
  | m + 1 => by
    rw [← Nat.add_assoc, xorN, xorN_lt f k m, decide_eq_false (by omega)]
    simp
theorem xorN_xor (f g : Nat → Bool) : ∀ n, xorN (fun i => f i != g i) n = (xorN f n != xorN g n)
  | 0 => rfl
  | n + 1 => by
    rw [xorN, xorN, xorN, xorN_xor f g n]
    cases xorN f n <;> cases xorN g n <;> cases f n <;> cases g n <;> rfl
theorem xorN_tele (f : Nat → Bool) : ∀ n, xorN (fun i => f i != f (i + 1)) n = (f 0 != f n)
  | 0 => by simp [xorN]
  | n + 1 => by
    rw [xorN, xorN_tele f n]
    cases f 0 <;> cases f n <;> cases f (n + 1) <;> rfl
theorem togs_flat {α : Type} (g : α → List EF) (P : List α) (hn : ∀ f ∈ P, (g f).Nodup) (e : EF) : togsE noE (P.flatMap g) e = par (P.countP fun f => decide (e ∈ g f)) := by
  induction P with
  | nil => rfl
  | cons f P ih =>
    rw [List.flatMap_cons, togsE_append, togsE_xor, xorE, togsE_nodup (hn f (by simp)), ih fun h hh => hn h (by simp [hh]), List.countP_cons, par_add]
    by_cases h : e ∈ g f
    · rw [decide_eq_true h, if_pos rfl]; cases par _ <;> rfl
    · rw [decide_eq_false h, if_neg (by simp)]; cases par _ <;> rfl
/-! A cell. -/
def sixX (g : EF → Bool) (p : Pt) : Bool := ((g (0, p) != g (0, add3 p 0 1)) != (g (1, p) != g (1, add3 p 1 1))) != (g (2, p) != g (2, add3 p 2 1))
theorem cell_even (E : EF → Bool) (p : Pt) : sixX (oddF E) p = false := by
  obtain ⟨x, y, z⟩ := p
  unfold sixX oddF add3 set3 cmp3
  simp only [Int.reduceAdd, Int.reduceMod, Int.reduceEq, if_true, if_false, Int.zero_add]
  generalize E (0, x, y, z) = a1
  generalize E (0, x, y + 1, z) = a2
  generalize E (0, x, y, z + 1) = a3
  generalize E (0, x, y + 1, z + 1) = a4
  generalize E (1, x, y, z) = b1
  generalize E (1, x + 1, y, z) = b2
  generalize E (1, x, y, z + 1) = b3
  generalize E (1, x + 1, y, z + 1) = b4
  generalize E (2, x, y, z) = c1
  generalize E (2, x + 1, y, z) = c2
  generalize E (2, x, y + 1, z) = c3
  generalize E (2, x + 1, y + 1, z) = c4
  revert a1 a2 a3 a4 b1 b2 b3 b4 c1 c2 c3 c4
  decide
/-! Patches. -/
theorem rowE_mem {d : Nat} {f : EF} {low : Int} {m : Nat} {e : EF} : e ∈ rowE d f low m ↔ e.1 = 3 - dirA d - f.1 ∧ (∃ i : Nat, i < m ∧ cmp3 e.2 (dirA d) = low + i) ∧ f.2 = set3 e.2 (dirA d) (cmp3 f.2 (dirA d)) := by
  unfold rowE
  rw [List.mem_map]
  constructor
  · rintro ⟨i, hi, rfl⟩
    refine ⟨rfl, ⟨i, List.mem_range.1 hi, ?_⟩, ?_⟩
    · rw [cmp3_set]
    · dsimp only
      rw [set3_set, set3_cmp]
  · rintro ⟨h1, ⟨i, hi, h2⟩, h3⟩
    refine ⟨i, List.mem_range.2 hi, ?_⟩
    refine Prod.ext h1.symm ?_
    dsimp only
    rw [h3, set3_set, ← h2, set3_cmp]
theorem rowE_nodup (d : Nat) (f : EF) (low : Int) (m : Nat) : (rowE d f low m).Nodup := by
  unfold rowE List.Nodup
  rw [List.pairwise_map]
  refine List.nodup_range.imp fun {i j} hne e => hne ?_
  have h := congrArg (fun x => cmp3 x.2 (dirA d)) e
  dsimp only at h
  rw [cmp3_set, cmp3_set] at h
  omega
theorem patF_nodup (n : Int) (d : Nat) (f : EF) : (patF n d f).Nodup := by
  unfold patF
  split
  · exact List.nodup_nil
  · exact rowE_nodup _ _ _ _
theorem grdF_cmp {n : Int} {f : EF} (h : grdF n f) {a : Int} (ha : a = 0 ∨ a = 1 ∨ a = 2) (hne : f.1 ≠ a) : 0 ≤ cmp3 f.2 a ∧ cmp3 f.2 a < n := by
  obtain ⟨_, ⟨h1, h2, h3⟩, _, h4, h5, h6⟩ := h
  rcases ha with rfl | rfl | rfl <;> (unfold cmp3; simp; omega)
/-- How often an edge lies in the rows of a list's faces. -/
theorem row_law {n : Nat} {P : List EF} (hn : P.Nodup) (hg : ∀ f ∈ P, grdF n f) {d : Nat} (hd : d < 6) {t m : Int} (hm : m = 3 - dirA d - t) (hma : m ≠ dirA d) (q : Pt) (k : Nat) (hk : cmp3 q (dirA d) = k) (hkn : k ≤ n) :
    patE n d P (t, q) = (xorN (fun y : Nat => decide ((m, set3 q (dirA d) (y : Int)) ∈ P)) k != (if d % 2 = 1 then false else xorN (fun y : Nat => decide ((m, set3 q (dirA d) (y : Int)) ∈ P)) n)) := by
  have ha : dirA d = 0 ∨ dirA d = 1 ∨ dirA d = 2 := by unfold dirA; omega
  unfold patE patL
  rw [togs_flat _ _ fun f _ => patF_nodup _ _ f]
  have key : (P.countP fun f => decide ((t, q) ∈ patF n d f)) = (List.range n).countP fun y : Nat => decide ((m, set3 q (dirA d) (y : Int)) ∈ P) && (if d % 2 = 1 then decide (y < k) else decide (k ≤ y)) := by
    rw [List.countP_eq_length_filter, List.countP_eq_length_filter]
    rw [← List.length_map (as := List.filter (fun y : Nat => decide ((m, set3 q (dirA d) (y : Int)) ∈ P) && (if d % 2 = 1 then decide (y < k) else decide (k ≤ y))) (List.range n)) (fun y : Nat => (m, set3 q (dirA d) (y : Int)))]
    refine List.Perm.length_eq ?_
    refine (List.perm_ext_iff_of_nodup (hn.filter _) ?_).2 fun f => ?_
    · unfold List.Nodup
      rw [List.pairwise_map]
      refine (List.nodup_range.filter _).imp fun {i j} hne e => hne ?_
      have h := congrArg (fun x => cmp3 x.2 (dirA d)) e
      dsimp only at h
      rw [cmp3_set, cmp3_set] at h
      omega
    · rw [List.mem_filter, List.mem_map, decide_eq_true_eq]
      constructor
      · rintro ⟨hf, hp⟩
        unfold patF at hp
        split at hp
        · cases hp
        · rename_i hfa
          obtain ⟨h1, ⟨i, hi, h2⟩, h3⟩ := rowE_mem.1 hp
          dsimp only at h1 h2 h3
          obtain ⟨c1, c2⟩ := grdF_cmp (hg f hf) ha hfa
          have e1 : f.1 = m := by omega
          have e2 : ((cmp3 f.2 (dirA d)).toNat : Int) = cmp3 f.2 (dirA d) := by omega
          have e3 : (m, set3 q (dirA d) ((cmp3 f.2 (dirA d)).toNat : Int)) = f := by rw [e2, ← h3, ← e1]
          refine ⟨(cmp3 f.2 (dirA d)).toNat, List.mem_filter.2 ⟨List.mem_range.2 (by omega), ?_⟩, e3⟩
          rw [e3, decide_eq_true hf, Bool.true_and]
          unfold lowD at h2 hi
          unfold highD at hi
          split
          · rename_i ho
            rw [if_pos ho] at h2
            exact decide_eq_true (by omega)
          · rename_i ho
            rw [if_neg ho] at h2
            rw [if_neg ho, if_neg ho] at hi
            exact decide_eq_true (by omega)
      · rintro ⟨y, hy, rfl⟩
        obtain ⟨hy1, hy2⟩ := List.mem_filter.1 hy
        have hy1 := List.mem_range.1 hy1
        rw [Bool.and_eq_true, decide_eq_true_eq] at hy2
        refine ⟨hy2.1, ?_⟩
        unfold patF
        rw [if_neg hma]
        refine rowE_mem.2 ⟨by dsimp only; omega, ?_, ?_⟩
        · unfold lowD highD
          dsimp only
          rw [cmp3_set]
          have h2 := hy2.2
          split
          · rename_i ho
            rw [if_pos ho] at h2
            have h2 := of_decide_eq_true h2
            exact ⟨k - (y + 1), by omega, by omega⟩
          · rename_i ho
            rw [if_neg ho] at h2
            have h2 := of_decide_eq_true h2
            exact ⟨k, by omega, by omega⟩
        · dsimp only
          rw [cmp3_set]
  rw [key, ← xorN_par]
  obtain ⟨r, hr⟩ : ∃ r, n = k + r := ⟨n - k, by omega⟩
  by_cases ho : d % 2 = 1
  · simp only [if_pos ho]
    rw [hr, xorN_lt]
    simp
  · simp only [if_neg ho]
    rw [hr, xorN_ge]
theorem row_none {n : Int} {P : List EF} {d : Nat} (hg : ∀ f ∈ P, 3 - dirA d - f.1 = dirA d → f.1 = dirA d) (q : Pt) : patE n d P (dirA d, q) = false := by
  unfold patE
  rw [togsE_off]
  · rfl
  · intro h
    obtain ⟨f, hf, h⟩ := List.mem_flatMap.1 h
    unfold patF at h
    split at h
    · cases h
    · rename_i hne
      obtain ⟨h1, _⟩ := rowE_mem.1 h
      exact hne (hg f hf h1.symm)
end Go.Proofs.Ytdpgohpbannfnaa
/- Layer 7, plain: a patch makes its component's faces even; with even faces all ways agree. No program. -/
namespace Go.Proofs.Ytdpgohpbannfnaa
theorem set3_comm (p : Pt) {a b : Int} (h : a ≠ b) (ha : a = 0 ∨ a = 1 ∨ a = 2) (hb : b = 0 ∨ b = 1 ∨ b = 2) (u v : Int) : set3 (set3 p a u) b v = set3 (set3 p b v) a u := by
  rcases ha with rfl | rfl | rfl <;> rcases hb with rfl | rfl | rfl <;> first | exact absurd rfl h | rfl
theorem cmp3_ne (p : Pt) {a b : Int} (h : a ≠ b) (ha : a = 0 ∨ a = 1 ∨ a = 2) (hb : b = 0 ∨ b = 1 ∨ b = 2) (u : Int) : cmp3 (set3 p a u) b = cmp3 p b := by
  rcases ha with rfl | rfl | rfl <;> rcases hb with rfl | rfl | rfl <;> first | exact absurd rfl h | rfl
theorem dirA_ax {d : Nat} (hd : d < 6) : dirA d = 0 ∨ dirA d = 1 ∨ dirA d = 2 := by unfold dirA; omega
/-- A set of faces that a patch serves. -/
structure FineP (n : Nat) (P : List EF) : Prop where
  nd : P.Nodup
  grd : ∀ f ∈ P, grdF n f
  low : ∀ f ∈ P, 0 < cmp3 f.2 f.1 ∧ cmp3 f.2 f.1 < n
  six : ∀ p : Pt, (0 ≤ p.1 ∧ p.1 < n) → (0 ≤ p.2.1 ∧ p.2.1 < n) → (0 ≤ p.2.2 ∧ p.2.2 < n) → sixX (fun f => decide (f ∈ P)) p = false
section
variable {n : Nat} {P : List EF}
theorem two_law (H : FineP n P) {d : Nat} (hd : d < 6) {t m : Int} (hm : m = 3 - dirA d - t) (hma : m ≠ dirA d) (c : Pt) (h0 : 0 ≤ cmp3 c (dirA d)) (h1 : cmp3 c (dirA d) < n) :
    (patE n d P (t, c) != patE n d P (t, add3 c (dirA d) 1)) = decide ((m, c) ∈ P) := by
  obtain ⟨k, hk⟩ : ∃ k : Nat, cmp3 c (dirA d) = k := ⟨(cmp3 c (dirA d)).toNat, by omega⟩
  rw [row_law H.nd H.grd hd hm hma c k hk (by omega), row_law H.nd H.grd hd hm hma (add3 c (dirA d) 1) (k + 1) (by unfold add3; rw [cmp3_set, hk]; rfl) (by omega)]
  have e : ∀ y, set3 (add3 c (dirA d) 1) (dirA d) y = set3 c (dirA d) y := fun y => by unfold add3; rw [set3_set]
  simp only [e]
  rw [xorN, show set3 c (dirA d) (k : Int) = c by rw [← hk, set3_cmp]]
  generalize xorN _ k = p
  generalize decide ((m, c) ∈ P) = q
  generalize (if d % 2 = 1 then false else xorN _ n) = r
  cases p <;> cases q <;> cases r <;> rfl
theorem four_law (H : FineP n P) {d : Nat} (hd : d < 6) {u w : Int} (hu : u = 0 ∨ u = 1 ∨ u = 2) (hw : w = 0 ∨ w = 1 ∨ w = 2) (hs : dirA d + u + w = 3) (h1 : u ≠ dirA d) (h2 : w ≠ dirA d) (_h3 : u ≠ w) (c : Pt) (h0 : 0 ≤ cmp3 c (dirA d)) (hn : cmp3 c (dirA d) ≤ n)
    (hB : ∀ y : Nat, y < n → ((decide ((w, set3 c (dirA d) y) ∈ P) != decide ((w, add3 (set3 c (dirA d) y) w 1) ∈ P)) != (decide ((u, set3 c (dirA d) y) ∈ P) != decide ((u, add3 (set3 c (dirA d) y) u 1) ∈ P))) = (decide ((dirA d, set3 c (dirA d) y) ∈ P) != decide ((dirA d, set3 c (dirA d) ((y + 1 : Nat) : Int)) ∈ P))) :
    ((patE n d P (u, c) != patE n d P (u, add3 c w 1)) != (patE n d P (w, c) != patE n d P (w, add3 c u 1))) = decide ((dirA d, c) ∈ P) := by
  obtain ⟨k, hk⟩ : ∃ k : Nat, cmp3 c (dirA d) = k := ⟨(cmp3 c (dirA d)).toNat, by omega⟩
  have ha := dirA_ax hd
  have kw : cmp3 (add3 c w 1) (dirA d) = k := by unfold add3; rw [cmp3_ne c h2 hw ha, hk]
  have ku : cmp3 (add3 c u 1) (dirA d) = k := by unfold add3; rw [cmp3_ne c h1 hu ha, hk]
  rw [row_law H.nd H.grd hd (t := u) (m := w) (by omega) h2 c k hk (by omega), row_law H.nd H.grd hd (t := u) (m := w) (by omega) h2 (add3 c w 1) k kw (by omega),
    row_law H.nd H.grd hd (t := w) (m := u) (by omega) h1 c k hk (by omega), row_law H.nd H.grd hd (t := w) (m := u) (by omega) h1 (add3 c u 1) k ku (by omega)]
  have ew : ∀ y, set3 (add3 c w 1) (dirA d) y = add3 (set3 c (dirA d) y) w 1 := fun y => by unfold add3; rw [set3_comm c h2 hw ha, cmp3_ne c (Ne.symm h2) ha hw]
  have eu : ∀ y, set3 (add3 c u 1) (dirA d) y = add3 (set3 c (dirA d) y) u 1 := fun y => by unfold add3; rw [set3_comm c h1 hu ha, cmp3_ne c (Ne.symm h1) ha hu]
  simp only [ew, eu]
  have S : ∀ j, j ≤ n → ((xorN (fun y : Nat => decide ((w, set3 c (dirA d) (y : Int)) ∈ P)) j != xorN (fun y : Nat => decide ((w, add3 (set3 c (dirA d) (y : Int)) w 1) ∈ P)) j) != (xorN (fun y : Nat => decide ((u, set3 c (dirA d) (y : Int)) ∈ P)) j != xorN (fun y : Nat => decide ((u, add3 (set3 c (dirA d) (y : Int)) u 1) ∈ P)) j)) = (decide ((dirA d, set3 c (dirA d) 0) ∈ P) != decide ((dirA d, set3 c (dirA d) (j : Int)) ∈ P)) := fun j hj => by
    rw [← xorN_xor, ← xorN_xor, ← xorN_xor, xorN_congr (fun y hy => hB y (by omega))]
    rw [xorN_tele (fun y : Nat => decide ((dirA d, set3 c (dirA d) (y : Int)) ∈ P))]
    rfl
  have b0 : decide ((dirA d, set3 c (dirA d) 0) ∈ P) = false := decide_eq_false fun hm => by
    have := (H.low _ hm).1
    dsimp only at this
    rw [cmp3_set] at this
    omega
  have bn : decide ((dirA d, set3 c (dirA d) (n : Int)) ∈ P) = false := decide_eq_false fun hm => by
    have := (H.low _ hm).2
    dsimp only at this
    rw [cmp3_set] at this
    omega
  have s1 := S k (by omega)
  have s2 := S n (by omega)
  rw [b0, show set3 c (dirA d) (k : Int) = c by rw [← hk, set3_cmp]] at s1
  rw [b0, bn] at s2
  generalize decide ((dirA d, c) ∈ P) = r at *
  generalize xorN _ k = x1 at *
  generalize xorN _ k = x2 at *
  generalize xorN _ k = x3 at *
  generalize xorN _ k = x4 at *
  by_cases ho : d % 2 = 1
  · simp only [if_pos ho]
    revert s1
    cases x1 <;> cases x2 <;> cases x3 <;> cases x4 <;> cases r <;> simp
  · simp only [if_neg ho]
    generalize xorN _ n = y1 at *
    generalize xorN _ n = y2 at *
    generalize xorN _ n = y3 at *
    generalize xorN _ n = y4 at *
    revert s1 s2
    cases x1 <;> cases x2 <;> cases x3 <;> cases x4 <;> cases r <;> cases y1 <;> cases y2 <;> cases y3 <;> cases y4 <;> simp
theorem six_mv {pm : EF → Bool} {p : Pt} (s : sixX pm p = false) : (((pm (2, p) != pm (2, add3 p 2 1)) != (pm (1, p) != pm (1, add3 p 1 1))) = (pm (0, p) != pm (0, add3 p 0 1))) ∧ (((pm (0, p) != pm (0, add3 p 0 1)) != (pm (2, p) != pm (2, add3 p 2 1))) = (pm (1, p) != pm (1, add3 p 1 1))) ∧ (((pm (1, p) != pm (1, add3 p 1 1)) != (pm (0, p) != pm (0, add3 p 0 1))) = (pm (2, p) != pm (2, add3 p 2 1))) := by
  unfold sixX at s
  revert s
  generalize pm (0, p) = a1
  generalize pm (1, p) = a2
  generalize pm (2, p) = a3
  generalize pm (0, add3 p 0 1) = a4
  generalize pm (1, add3 p 1 1) = a5
  generalize pm (2, add3 p 2 1) = a6
  cases a1 <;> cases a2 <;> cases a3 <;> cases a4 <;> cases a5 <;> cases a6 <;> simp
/-- What a patch does to the faces of the grid. -/
theorem pat_face (H : FineP n P) {d : Nat} (hd : d < 6) {g : EF} (hg : grdF n g) : oddF (patE n d P) g = decide (g ∈ P) := by
  have ha := dirA_ax hd
  have hno : ∀ q, patE n d P (dirA d, q) = false := fun q => row_none (fun f hf h => by have := (H.grd f hf).1; omega) q
  obtain ⟨b, c⟩ := g
  obtain ⟨⟨g1, g2⟩, ⟨p1, p2, p3⟩, ⟨q1, q2, q3⟩, r1, r2, r3⟩ := hg
  dsimp only at g1 g2 p1 p2 p3 q1 q2 q3 r1 r2 r3
  have hb : b = 0 ∨ b = 1 ∨ b = 2 := by omega
  have h0 : 0 ≤ cmp3 c (dirA d) ∧ cmp3 c (dirA d) ≤ n ∧ (b = dirA d ∨ cmp3 c (dirA d) < n) := by
    rcases ha with e | e | e <;> rw [e] <;> (unfold cmp3; simp; omega)
  unfold oddF
  dsimp only
  by_cases hba : b = dirA d
  · subst hba
    have sx : ∀ y : Nat, y < n → sixX (fun f => decide (f ∈ P)) (set3 c (dirA d) y) = false := fun y hy => by
      refine H.six _ ?_ ?_ ?_ <;> (rcases ha with e | e | e <;> rw [e] at r1 r2 r3 ⊢ <;> (unfold set3; simp; omega))
    have sy : ∀ y : Nat, set3 c (dirA d) ((y + 1 : Nat) : Int) = add3 (set3 c (dirA d) (y : Int)) (dirA d) 1 := fun y => by
      unfold add3
      rw [cmp3_set, set3_set]
      rfl
    rcases ha with e | e | e
    · rw [show (dirA d + 1) % 3 = 1 by rw [e]; rfl, show (dirA d + 2) % 3 = 2 by rw [e]; rfl]
      refine four_law H hd (by omega) (by omega) (by omega) (by omega) (by omega) (by omega) c h0.1 h0.2.1 fun y hy => ?_
      rw [sy]
      have s := (six_mv (sx y hy)).1
      rw [e] at s ⊢
      exact s
    · rw [show (dirA d + 1) % 3 = 2 by rw [e]; rfl, show (dirA d + 2) % 3 = 0 by rw [e]; rfl]
      refine four_law H hd (by omega) (by omega) (by omega) (by omega) (by omega) (by omega) c h0.1 h0.2.1 fun y hy => ?_
      rw [sy]
      have s := (six_mv (sx y hy)).2.1
      rw [e] at s ⊢
      exact s
    · rw [show (dirA d + 1) % 3 = 0 by rw [e]; rfl, show (dirA d + 2) % 3 = 1 by rw [e]; rfl]
      refine four_law H hd (by omega) (by omega) (by omega) (by omega) (by omega) (by omega) c h0.1 h0.2.1 fun y hy => ?_
      rw [sy]
      have s := (six_mv (sx y hy)).2.2
      rw [e] at s ⊢
      exact s
  · have hlt : cmp3 c (dirA d) < n := by rcases h0.2.2 with h | h; exact absurd h hba; exact h
    by_cases hu : (b + 1) % 3 = dirA d
    · rw [hu, hno, hno]
      have := two_law H hd (t := (b + 2) % 3) (m := b) (by omega) hba c h0.1 hlt
      rw [this]
      simp
    · have hw : (b + 2) % 3 = dirA d := by omega
      rw [hw, hno, hno]
      have := two_law H hd (t := (b + 1) % 3) (m := b) (by omega) hba c h0.1 hlt
      rw [this]
      simp
end
/-! Ways. -/
/-- All faces of the grid are even. -/
def EvenE (n : Nat) (E : EF → Bool) : Prop := ∀ f, grdF n f → oddF E f = false
section
variable {n : Nat} {E : EF → Bool}
theorem rect_xy (H : EvenE n E) {y z : Nat} (hy : y < n) (hz : z ≤ n) : ∀ x, x ≤ n → (xorN (fun i : Nat => E (0, (i : Int), ((y + 1 : Nat) : Int), (z : Int))) x != xorN (fun i : Nat => E (0, (i : Int), (y : Int), (z : Int))) x) = (E (1, 0, (y : Int), (z : Int)) != E (1, (x : Int), (y : Int), (z : Int)))
  | 0, _ => by simp [xorN]
  | x + 1, hx => by
    have ih := rect_xy H hy hz x (by omega)
    have h := H (2, (x : Int), (y : Int), (z : Int)) ⟨by omega, by dsimp only; omega, by dsimp only; omega, by dsimp only; omega⟩
    unfold oddF add3 set3 cmp3 at h
    simp only [Int.reduceAdd, Int.reduceMod, Int.reduceEq, if_true, if_false] at h
    rw [xorN, xorN]
    push_cast at h ih ⊢
    revert h ih
    generalize xorN _ x = a1
    generalize xorN _ x = a2
    generalize E (0, (x : Int), (y : Int) + 1, (z : Int)) = a3
    generalize E (0, (x : Int), (y : Int), (z : Int)) = a4
    generalize E (1, 0, (y : Int), (z : Int)) = a5
    generalize E (1, (x : Int), (y : Int), (z : Int)) = a6
    generalize E (1, (x : Int) + 1, (y : Int), (z : Int)) = a7
    cases a1 <;> cases a2 <;> cases a3 <;> cases a4 <;> cases a5 <;> cases a6 <;> cases a7 <;> simp
theorem rect_xz (H : EvenE n E) {y z : Nat} (hy : y ≤ n) (hz : z < n) : ∀ x, x ≤ n → (xorN (fun i : Nat => E (0, (i : Int), (y : Int), ((z + 1 : Nat) : Int))) x != xorN (fun i : Nat => E (0, (i : Int), (y : Int), (z : Int))) x) = (E (2, 0, (y : Int), (z : Int)) != E (2, (x : Int), (y : Int), (z : Int)))
  | 0, _ => by simp [xorN]
  | x + 1, hx => by
    have ih := rect_xz H hy hz x (by omega)
    have h := H (1, (x : Int), (y : Int), (z : Int)) ⟨by omega, by dsimp only; omega, by dsimp only; omega, by dsimp only; omega⟩
    unfold oddF add3 set3 cmp3 at h
    simp only [Int.reduceAdd, Int.reduceMod, Int.reduceEq, if_true, if_false] at h
    rw [xorN, xorN]
    push_cast at h ih ⊢
    revert h ih
    generalize xorN _ x = a1
    generalize xorN _ x = a2
    generalize E (0, (x : Int), (y : Int), (z : Int) + 1) = a3
    generalize E (0, (x : Int), (y : Int), (z : Int)) = a4
    generalize E (2, 0, (y : Int), (z : Int)) = a5
    generalize E (2, (x : Int), (y : Int), (z : Int)) = a6
    generalize E (2, (x : Int) + 1, (y : Int), (z : Int)) = a7
    cases a1 <;> cases a2 <;> cases a3 <;> cases a4 <;> cases a5 <;> cases a6 <;> cases a7 <;> simp
theorem rect_yz (H : EvenE n E) {x z : Nat} (hx : x ≤ n) (hz : z < n) : ∀ y, y ≤ n → (xorN (fun i : Nat => E (1, (x : Int), (i : Int), ((z + 1 : Nat) : Int))) y != xorN (fun i : Nat => E (1, (x : Int), (i : Int), (z : Int))) y) = (E (2, (x : Int), 0, (z : Int)) != E (2, (x : Int), (y : Int), (z : Int)))
  | 0, _ => by simp [xorN]
  | y + 1, hy => by
    have ih := rect_yz H hx hz y (by omega)
    have h := H (0, (x : Int), (y : Int), (z : Int)) ⟨by omega, by dsimp only; omega, by dsimp only; omega, by dsimp only; omega⟩
    unfold oddF add3 set3 cmp3 at h
    simp only [Int.reduceAdd, Int.reduceMod, Int.reduceEq, if_true, if_false] at h
    rw [xorN, xorN]
    push_cast at h ih ⊢
    revert h ih
    generalize xorN _ y = a1
    generalize xorN _ y = a2
    generalize E (1, (x : Int), (y : Int), (z : Int) + 1) = a3
    generalize E (1, (x : Int), (y : Int), (z : Int)) = a4
    generalize E (2, (x : Int), 0, (z : Int)) = a5
    generalize E (2, (x : Int), (y : Int), (z : Int)) = a6
    generalize E (2, (x : Int), (y : Int) + 1, (z : Int)) = a7
    cases a1 <;> cases a2 <;> cases a3 <;> cases a4 <;> cases a5 <;> cases a6 <;> cases a7 <;> simp
/-- The other way: along z, y, x. -/
def insW (E : EF → Bool) (x y z : Nat) : Bool := (xorN (fun i : Nat => E (2, 0, 0, (i : Int))) z != xorN (fun i : Nat => E (1, 0, (i : Int), (z : Int))) y) != xorN (fun i : Nat => E (0, (i : Int), (y : Int), (z : Int))) x
theorem up_xy (H : EvenE n E) {x z : Nat} (hx : x ≤ n) (hz : z ≤ n) : ∀ y, y ≤ n → xorN (fun i : Nat => E (0, (i : Int), (y : Int), (z : Int))) x = ((xorN (fun i : Nat => E (0, (i : Int), 0, (z : Int))) x != xorN (fun j : Nat => E (1, 0, (j : Int), (z : Int))) y) != xorN (fun j : Nat => E (1, (x : Int), (j : Int), (z : Int))) y)
  | 0, _ => by simp [xorN]
  | y + 1, hy => by
    have ih := up_xy H hx hz y (by omega)
    have h := rect_xy H (show y < n by omega) hz x hx
    rw [xorN.eq_def _ (y + 1), xorN.eq_def _ (y + 1)]
    dsimp only
    revert h ih
    generalize xorN _ x = a1
    generalize xorN _ x = a2
    generalize xorN _ x = a3
    generalize xorN _ y = a4
    generalize xorN _ y = a5
    generalize E (1, 0, (y : Int), (z : Int)) = a6
    generalize E (1, (x : Int), (y : Int), (z : Int)) = a7
    cases a1 <;> cases a2 <;> cases a3 <;> cases a4 <;> cases a5 <;> cases a6 <;> cases a7 <;> simp
theorem up_xz (H : EvenE n E) {x : Nat} (hx : x ≤ n) : ∀ z, z ≤ n → xorN (fun i : Nat => E (0, (i : Int), 0, (z : Int))) x = ((xorN (fun i : Nat => E (0, (i : Int), 0, 0)) x != xorN (fun j : Nat => E (2, 0, 0, (j : Int))) z) != xorN (fun j : Nat => E (2, (x : Int), 0, (j : Int))) z)
  | 0, _ => by simp [xorN]
  | z + 1, hz => by
    have ih := up_xz H hx z (by omega)
    have h := rect_xz H (y := 0) (by omega) (show z < n by omega) x hx
    rw [xorN.eq_def _ (z + 1), xorN.eq_def _ (z + 1)]
    dsimp only
    rw [show ((0 : Nat) : Int) = 0 from rfl] at h
    revert h ih
    generalize xorN _ x = a1
    generalize xorN _ x = a2
    generalize xorN _ x = a3
    generalize xorN _ z = a4
    generalize xorN _ z = a5
    generalize E (2, 0, 0, (z : Int)) = a6
    generalize E (2, (x : Int), 0, (z : Int)) = a7
    cases a1 <;> cases a2 <;> cases a3 <;> cases a4 <;> cases a5 <;> cases a6 <;> cases a7 <;> simp
theorem up_yz (H : EvenE n E) {x y : Nat} (hx : x ≤ n) (hy : y ≤ n) : ∀ z, z ≤ n → xorN (fun i : Nat => E (1, (x : Int), (i : Int), (z : Int))) y = ((xorN (fun i : Nat => E (1, (x : Int), (i : Int), 0)) y != xorN (fun j : Nat => E (2, (x : Int), 0, (j : Int))) z) != xorN (fun j : Nat => E (2, (x : Int), (y : Int), (j : Int))) z)
  | 0, _ => by simp [xorN]
  | z + 1, hz => by
    have ih := up_yz H hx hy z (by omega)
    have h := rect_yz H hx (show z < n by omega) y hy
    rw [xorN.eq_def _ (z + 1), xorN.eq_def _ (z + 1)]
    dsimp only
    revert h ih
    generalize xorN _ y = a1
    generalize xorN _ y = a2
    generalize xorN _ y = a3
    generalize xorN _ z = a4
    generalize xorN _ z = a5
    generalize E (2, (x : Int), 0, (z : Int)) = a6
    generalize E (2, (x : Int), (y : Int), (z : Int)) = a7
    cases a1 <;> cases a2 <;> cases a3 <;> cases a4 <;> cases a5 <;> cases a6 <;> cases a7 <;> simp
/-- All ways agree. -/
theorem ways_agree (H : EvenE n E) {x y z : Nat} (hx : x ≤ n) (hy : y ≤ n) (hz : z ≤ n) : insW E x y z = insV E x y z := by
  unfold insW insV
  rw [up_xy H hx hz y hy, up_xz H hx z hz, up_yz H hx hy z hz]
  generalize xorN _ x = a1
  generalize xorN _ z = a2
  generalize xorN _ y = a3
  generalize xorN _ z = a4
  generalize xorN _ y = a5
  generalize xorN _ z = a6
  cases a1 <;> cases a2 <;> cases a3 <;> cases a4 <;> cases a5 <;> cases a6 <;> rfl
end
end Go.Proofs.Ytdpgohpbannfnaa
/- Layer 7, plain: components; sealing leaves no odd face. No program. -/
namespace Go.Proofs.Ytdpgohpbannfnaa
/-! Connection. -/
theorem touch_symm {f g : EF} (h : touch f g = true) : touch g f = true := by
  unfold touch at *
  rw [List.any_eq_true] at *
  obtain ⟨p, hp, h⟩ := h
  obtain ⟨q, hq, h⟩ := List.any_eq_true.1 h
  exact ⟨q, hq, List.any_eq_true.2 ⟨p, hp, decide_eq_true (of_decide_eq_true h).symm⟩⟩
theorem touch_of {f g : EF} {p : Pt} (hf : p ∈ cellsF f) (hg : p ∈ cellsF g) : touch f g = true :=
  List.any_eq_true.2 ⟨p, hf, List.any_eq_true.2 ⟨p, hg, decide_eq_true rfl⟩⟩
section
variable {l : List EF} {f g h : EF}
theorem Conn.refl (l : List EF) (f : EF) : Conn l f f := fun _ h _ => h
theorem Conn.step (h1 : Conn l f g) (hm : h ∈ l) (ht : touch g h = true) : Conn l f h := fun S h0 hS => hS _ _ (h1 S h0 hS) hm ht
theorem Conn.trans (h1 : Conn l f g) (h2 : Conn l g h) : Conn l f h := fun S h0 hS => h2 S (h1 S h0 hS) hS
theorem Conn.mem (h1 : Conn l f g) (hf : f ∈ l) : g ∈ l := h1 (fun x => x ∈ l) hf fun _ _ _ hb _ => hb
theorem Conn.symm (h1 : Conn l f g) (hf : f ∈ l) : Conn l g f := by
  have := h1 (fun x => x ∈ l ∧ Conn l x f) ⟨hf, Conn.refl l f⟩ fun a b ha hb ht => ⟨hb, ((Conn.refl l b).step ha.1 (touch_symm ht)).trans ha.2⟩
  exact this.2
theorem connB_iff : connB l f g = true ↔ Conn l f g := by unfold connB; exact @decide_eq_true_iff _ (Classical.propDecidable _)
theorem compF_mem : g ∈ compF l f ↔ g ∈ l ∧ Conn l f g := by unfold compF; rw [List.mem_filter, connB_iff]
theorem compF_self (hf : f ∈ l) : f ∈ compF l f := compF_mem.2 ⟨hf, Conn.refl l f⟩
theorem compF_eq (hf : f ∈ l) (hc : Conn l f g) : compF l f = compF l g := by
  unfold compF
  refine List.filter_congr fun x _ => ?_
  rw [Bool.eq_iff_iff, connB_iff, connB_iff]
  exact ⟨fun h => (hc.symm hf).trans h, fun h => hc.trans h⟩
end
/-- What is left when the first component is taken away. -/
noncomputable def restF (l : List EF) (f : EF) : List EF := l.filter fun g => !connB l f g
theorem conn_rest {l : List EF} {f0 f g : EF} (hf : f ∈ restF l f0) : Conn (restF l f0) f g ↔ Conn l f g := by
  have hm := List.mem_filter.1 hf
  have hnc : ¬ Conn l f0 f := fun e => by have := hm.2; rw [connB_iff.2 e] at this; cases this
  constructor
  · intro h
    exact h (fun x => Conn l f x) (Conn.refl l f) fun a b ha hb ht => ha.step (List.mem_filter.1 hb).1 ht
  · intro h
    have := h (fun x => x ∈ l ∧ Conn l f x ∧ Conn (restF l f0) f x) ⟨hm.1, Conn.refl _ _, Conn.refl _ _⟩ fun a b ha hb ht => by
      have hfb : Conn l f b := ha.2.1.step hb ht
      refine ⟨hb, hfb, ha.2.2.step (List.mem_filter.2 ⟨hb, ?_⟩) ht⟩
      rw [Bool.not_eq_true', Bool.eq_false_iff]
      intro hc
      exact hnc ((connB_iff.1 hc).trans (hfb.symm hm.1))
    exact this.2.2
theorem comp_rest {l : List EF} {f0 f : EF} (hf : f ∈ restF l f0) : compF (restF l f0) f = compF l f := by
  have hm := List.mem_filter.1 hf
  unfold compF restF
  rw [List.filter_filter]
  refine List.filter_congr fun x hx => ?_
  have e : connB (restF l f0) f x = connB l f x := by rw [Bool.eq_iff_iff, connB_iff, connB_iff]; exact conn_rest hf
  unfold restF at e
  rw [e]
  cases hc : connB l f x with
  | false => rfl
  | true =>
    rw [Bool.true_and, Bool.not_eq_true', Bool.eq_false_iff]
    intro hc2
    have h1 := connB_iff.1 hc
    have h2 := connB_iff.1 hc2
    have := hm.2
    rw [connB_iff.2 (h2.trans (h1.symm hm.1))] at this
    cases this
theorem filter_comm2 {α : Type} (p q : α → Bool) (l : List α) : (l.filter p).filter q = (l.filter q).filter p := by
  rw [List.filter_filter, List.filter_filter]
  exact List.filter_congr fun x _ => Bool.and_comm _ _
theorem partsF_nil : partsF [] = [] := rfl
theorem partsF_cons {f : EF} {l : List EF} (hn : (f :: l).Nodup) : partsF (f :: l) = compF (f :: l) f :: partsF (restF (f :: l) f) := by
  have hf : f ∈ f :: l := List.mem_cons_self
  have hh : headB (f :: l) f = true := by
    unfold headB compF
    rw [List.filter_cons_of_pos (connB_iff.2 (Conn.refl _ _))]
    exact decide_eq_true rfl
  have hr : ∀ g ∈ restF (f :: l) f, g ≠ f := fun g hg e => by
    have := (List.mem_filter.1 hg).2
    rw [e, connB_iff.2 (Conn.refl _ _)] at this
    cases this
  unfold partsF
  rw [List.filter_cons_of_pos hh, List.map_cons]
  congr 1
  have e1 : l.filter (headB (f :: l)) = (restF (f :: l) f).filter (headB (restF (f :: l) f)) := by
    have e2 : (restF (f :: l) f).filter (headB (restF (f :: l) f)) = (restF (f :: l) f).filter (headB (f :: l)) := by
      refine List.filter_congr fun g hg => ?_
      unfold headB
      rw [comp_rest hg]
    rw [e2]
    unfold restF
    rw [List.filter_cons_of_neg (by rw [connB_iff.2 (Conn.refl _ _)]; simp), List.filter_filter]
    refine List.filter_congr fun g hg => ?_
    cases hc : connB (f :: l) f g with
    | false => simp
    | true =>
      simp only [Bool.not_true, Bool.and_false]
      rw [Bool.eq_false_iff]
      intro h
      unfold headB at h
      have h := of_decide_eq_true h
      rw [← compF_eq hf (connB_iff.1 hc)] at h
      unfold compF at h
      rw [List.filter_cons_of_pos (connB_iff.2 (Conn.refl _ _)), List.head?_cons] at h
      cases h
      exact (List.nodup_cons.1 hn).1 hg
  rw [e1]
  exact List.map_congr_left fun g hg => (comp_rest (List.mem_filter.1 hg).1).symm
theorem restF_nodup {l : List EF} {f : EF} (hn : l.Nodup) : (restF l f).Nodup := hn.filter _
theorem restF_len {f : EF} {l : List EF} : (restF (f :: l) f).length ≤ l.length := by
  unfold restF
  rw [List.filter_cons_of_neg (by rw [connB_iff.2 (Conn.refl _ _)]; simp)]
  exact List.length_filter_le _ _
/-- Lists of faces by their components. -/
theorem parts_ind {motive : List EF → Prop} (h0 : motive []) (h1 : ∀ f l, (f :: l).Nodup → motive (restF (f :: l) f) → motive (f :: l)) : ∀ l, l.Nodup → motive l := by
  have key : ∀ m l, l.length ≤ m → l.Nodup → motive l := by
    intro m
    induction m with
    | zero =>
      intro l hl _
      have e : l = [] := List.eq_nil_of_length_eq_zero (by omega)
      rw [e]
      exact h0
    | succ m ih =>
      intro l hl hn
      cases l with
      | nil => exact h0
      | cons f l => exact h1 f l hn (ih _ (by have := restF_len (f := f) (l := l); rw [List.length_cons] at hl; omega) (restF_nodup hn))
  exact fun l hn => key l.length l (Nat.le_refl _) hn
/-- Each face lies in one component. -/
theorem parts_once (g : EF) : ∀ l, l.Nodup → par ((partsF l).countP fun P => decide (g ∈ P)) = decide (g ∈ l) := by
  refine parts_ind rfl fun f l hn ih => ?_
  rw [partsF_cons hn, List.countP_cons, par_add, ih]
  have hf : f ∈ f :: l := List.mem_cons_self
  by_cases hg : g ∈ f :: l
  · by_cases hc : Conn (f :: l) f g
    · rw [decide_eq_true hg, decide_eq_true (compF_mem.2 ⟨hg, hc⟩), decide_eq_false (show ¬ g ∈ restF (f :: l) f from fun h => by have := (List.mem_filter.1 h).2; rw [connB_iff.2 hc] at this; cases this)]
      rfl
    · rw [decide_eq_true hg, decide_eq_false (fun h => hc (compF_mem.1 h).2), decide_eq_true (show g ∈ restF (f :: l) f from List.mem_filter.2 ⟨hg, by rw [Bool.not_eq_true', Bool.eq_false_iff]; exact fun h => hc (connB_iff.1 h)⟩)]
      rfl
  · rw [decide_eq_false hg, decide_eq_false (fun h => hg (compF_mem.1 h).1), decide_eq_false (show ¬ g ∈ restF (f :: l) f from fun h => hg (List.mem_filter.1 h).1)]
    rfl
theorem parts_class {l : List EF} {P : List EF} (h : P ∈ partsF l) : ∃ f ∈ l, P = compF l f := by
  obtain ⟨f, hf, rfl⟩ := List.mem_map.1 h
  exact ⟨f, (List.mem_filter.1 hf).1, rfl⟩
/-! The odd faces. -/
theorem vtxS_of {s : Nat} {p : Pt} (h1 : 0 ≤ p.1 ∧ p.1 < s) (h2 : 0 ≤ p.2.1 ∧ p.2.1 < s) (h3 : 0 ≤ p.2.2 ∧ p.2.2 < s) : ∃ k, k < s * s * s ∧ vtxS s k = p := by
  obtain ⟨x, hx⟩ : ∃ x : Nat, p.1 = x := ⟨p.1.toNat, by omega⟩
  obtain ⟨y, hy⟩ : ∃ x : Nat, p.2.1 = x := ⟨p.2.1.toNat, by omega⟩
  obtain ⟨z, hz⟩ : ∃ x : Nat, p.2.2 = x := ⟨p.2.2.toNat, by omega⟩
  have hx' : x < s := by omega
  have hy' : y < s := by omega
  have hz' : z < s := by omega
  have hs : 0 < s := by omega
  refine ⟨(z * s + y) * s + x, ?_, ?_⟩
  · have h1 : z * s + s ≤ s * s := by have := Nat.mul_le_mul_right s (show z + 1 ≤ s by omega); rw [Nat.succ_mul] at this; exact this
    have h2 : (z * s + y) * s + s ≤ s * s * s := by have := Nat.mul_le_mul_right s (show z * s + y + 1 ≤ s * s by omega); rw [Nat.succ_mul] at this; exact this
    omega
  · have e1 : ((z * s + y) * s + x) / s = z * s + y := by rw [Nat.add_comm, Nat.add_mul_div_right _ _ hs, Nat.div_eq_of_lt hx', Nat.zero_add]
    have e0 : ((z * s + y) * s + x) % s = x := by rw [Nat.mul_comm, Nat.mul_add_mod, Nat.mod_eq_of_lt hx']
    have e2 : (z * s + y) % s = y := by rw [Nat.mul_comm, Nat.mul_add_mod, Nat.mod_eq_of_lt hy']
    have e3 : (z * s + y) / s = z := by rw [Nat.add_comm, Nat.add_mul_div_right _ _ hs, Nat.div_eq_of_lt hy', Nat.zero_add]
    unfold vtxS
    rw [e0, e1, e2, e3, ← hx, ← hy, ← hz]
theorem vtxS_lt {s k : Nat} (hk : k < s * s * s) : (0 ≤ (vtxS s k).1 ∧ (vtxS s k).1 < s) ∧ (0 ≤ (vtxS s k).2.1 ∧ (vtxS s k).2.1 < s) ∧ (0 ≤ (vtxS s k).2.2 ∧ (vtxS s k).2.2 < s) := by
  have hs : 0 < s := by
    rcases Nat.eq_zero_or_pos s with rfl | h
    · simp at hk
    · exact h
  have h1 := Nat.mod_lt k hs
  have h2 := Nat.mod_lt (k / s) hs
  have h3 : k / s / s < s := (Nat.div_lt_iff_lt_mul hs).2 ((Nat.div_lt_iff_lt_mul hs).2 hk)
  unfold vtxS
  dsimp only
  generalize k % s = a at *
  generalize k / s % s = b at *
  generalize k / s / s = c at *
  omega
theorem oddA_mem {E : EF → Bool} {n a : Nat} (ha : a < 3) {f : EF} : f ∈ oddA E (n + 1) a ((n + 1) * (n + 1) * (n + 1)) ↔ f.1 = a ∧ grdF n f ∧ oddF E f = true := by
  unfold oddA
  rw [List.mem_map]
  have hc : (a : Int) = 0 ∨ (a : Int) = 1 ∨ (a : Int) = 2 := by omega
  constructor
  · rintro ⟨k, hk, rfl⟩
    obtain ⟨hk, hp⟩ := List.mem_filter.1 hk
    obtain ⟨v1, v2, v3⟩ := vtxS_lt (List.mem_range.1 hk)
    simp only [Bool.and_eq_true, decide_eq_true_eq] at hp
    obtain ⟨p1, p2, p3⟩ := hp
    refine ⟨rfl, ?_, p3⟩
    generalize vtxS (n + 1) k = p at *
    unfold grdF
    dsimp only
    rcases hc with e | e | e <;> rw [e] at p1 p2 ⊢ <;> (unfold cmp3 at p1 p2; simp at p1 p2; omega)
  · rintro ⟨h1, h2, h3⟩
    obtain ⟨_, ⟨g1, g2, g3⟩, ⟨g4, g5, g6⟩, g7, g8, g9⟩ := h2
    obtain ⟨k, hk, hv⟩ := vtxS_of (s := n + 1) (p := f.2) (by omega) (by omega) (by omega)
    refine ⟨k, List.mem_filter.2 ⟨List.mem_range.2 hk, ?_⟩, ?_⟩
    · rw [hv]
      simp only [Bool.and_eq_true, decide_eq_true_eq]
      have he : ((a : Int), f.2) = f := by rw [← h1]
      rw [he]
      refine ⟨?_, ?_, h3⟩ <;> (rcases hc with e | e | e <;> rw [e] at h1 ⊢ <;> (unfold cmp3; simp; omega))
    · rw [hv, ← h1]
theorem oddL_mem {E : EF → Bool} {n : Nat} {f : EF} : f ∈ oddL E (n + 1) ↔ grdF n f ∧ oddF E f = true := by
  unfold oddL
  rw [List.mem_append, List.mem_append, oddA_mem (by omega), oddA_mem (by omega), oddA_mem (by omega)]
  constructor
  · rintro (h | h | h) <;> exact h.2
  · intro h
    have := h.1.1
    have hc : f.1 = 0 ∨ f.1 = 1 ∨ f.1 = 2 := by omega
    rcases hc with e | e | e
    · exact .inl ⟨e, h⟩
    · exact .inr (.inl ⟨e, h⟩)
    · exact .inr (.inr ⟨e, h⟩)
theorem ltF_vtx {a : Int} {s i j : Nat} (hij : i < j) : ltF (a, vtxS s i) (a, vtxS s j) = true := by
  have hd : ∀ s k : Nat, k = k / s * s + k % s := fun s k => by have := Nat.div_add_mod k s; rw [Nat.mul_comm] at this; exact this.symm
  have e1 := hd s i
  have e2 := hd s j
  have e3 := hd s (i / s)
  have e4 := hd s (j / s)
  have h1 : i / s ≤ j / s := Nat.div_le_div_right (by omega)
  have h2 : i / s / s ≤ j / s / s := Nat.div_le_div_right h1
  unfold ltF vtxS
  simp only [Int.lt_irrefl, decide_false, Bool.false_or, decide_true, Bool.true_and, Bool.or_eq_true, decide_eq_true_eq, Bool.and_eq_true]
  rcases Nat.lt_or_ge (i / s / s) (j / s / s) with h | h
  · exact .inl (by omega)
  · have e5 : i / s / s = j / s / s := by omega
    refine .inr ⟨by rw [e5], ?_⟩
    rcases Nat.lt_or_ge (i / s % s) (j / s % s) with h3 | h3
    · exact .inl (by omega)
    · have e6 : i / s % s = j / s % s := by rw [e5] at e3; omega
      refine .inr ⟨by rw [e6], ?_⟩
      have e7 : i / s = j / s := by rw [e3, e4, e5, e6]
      rw [e7] at e1
      omega
theorem oddA_sorted (E : EF → Bool) (s a m : Nat) : (oddA E s a m).Pairwise fun f g => ltF f g = true := by
  unfold oddA
  rw [List.pairwise_map]
  exact (List.pairwise_lt_range.filter _).imp fun h => ltF_vtx h
theorem oddA_ax {E : EF → Bool} {s a m : Nat} {f : EF} (h : f ∈ oddA E s a m) : f.1 = a := by
  obtain ⟨k, _, rfl⟩ := List.mem_map.1 h
  rfl
theorem oddL_sorted (E : EF → Bool) (s : Nat) : (oddL E s).Pairwise fun f g => ltF f g = true := by
  have lt : ∀ f g : EF, f.1 < g.1 → ltF f g = true := fun f g h => by unfold ltF; rw [decide_eq_true h]; rfl
  unfold oddL
  refine List.pairwise_append.2 ⟨oddA_sorted _ _ _ _, List.pairwise_append.2 ⟨oddA_sorted _ _ _ _, oddA_sorted _ _ _ _, ?_⟩, ?_⟩
  · intro f hf g hg
    exact lt f g (by rw [oddA_ax hf, oddA_ax hg]; omega)
  · intro f hf g hg
    rcases List.mem_append.1 hg with hg | hg <;> exact lt f g (by rw [oddA_ax hf, oddA_ax hg]; omega)
theorem ltF_irrefl (f : EF) : ltF f f = false := by unfold ltF; simp
theorem oddL_nodup (E : EF → Bool) (s : Nat) : (oddL E s).Nodup := (oddL_sorted E s).imp fun {f g} h e => by subst e; rw [ltF_irrefl] at h; cases h
/-! Components are fine; sealing. -/
/-- The edges of a set are inner ones. -/
def InnE (n : Nat) (E : EF → Bool) : Prop := ∀ e, E e = true → innE n e = true
theorem odd_low {n : Nat} {E : EF → Bool} (hE : InnE n E) {f : EF} (hf : grdF n f) (ho : oddF E f = true) : 0 < cmp3 f.2 f.1 ∧ cmp3 f.2 f.1 < n := by
  obtain ⟨b, x, y, z⟩ := f
  obtain ⟨g0, ⟨g1, g2, g3⟩, ⟨g4, g5, g6⟩, _⟩ := hf
  dsimp only at g0 g1 g2 g3 g4 g5 g6 ⊢
  rcases Classical.em (0 < cmp3 (x, y, z) b ∧ cmp3 (x, y, z) b < n) with h | h
  · exact h
  · exfalso
    have off : ∀ e : EF, ¬ innE n e = true → E e = false := fun e h => by
      cases he : E e with
      | false => rfl
      | true => exact absurd (hE e he) h
    have hc : b = 0 ∨ b = 1 ∨ b = 2 := by omega
    unfold oddF add3 set3 cmp3 at ho
    unfold cmp3 at h
    rcases hc with rfl | rfl | rfl <;> simp only [Int.reduceAdd, Int.reduceMod, Int.reduceEq, if_true, if_false] at ho h <;>
      (rw [off _ (by unfold innE; simp only [Bool.and_eq_true, decide_eq_true_eq]; omega), off _ (by unfold innE; simp only [Bool.and_eq_true, decide_eq_true_eq]; omega), off _ (by unfold innE; simp only [Bool.and_eq_true, decide_eq_true_eq]; omega), off _ (by unfold innE; simp only [Bool.and_eq_true, decide_eq_true_eq]; omega)] at ho; cases ho)
theorem comp_fine {n : Nat} {E : EF → Bool} (hE : InnE n E) (f : EF) : FineP n (compF (oddL E (n + 1)) f) := by
  refine ⟨(oddL_nodup E _).filter _, fun g hg => (oddL_mem.1 (compF_mem.1 hg).1).1, fun g hg => ?_, fun p hx hy hz => ?_⟩
  · have h := oddL_mem.1 (compF_mem.1 hg).1
    exact odd_low hE h.1 h.2
  · have hev := cell_even E p
    -- the six faces
    have hg : ∀ a : Int, a = 0 ∨ a = 1 ∨ a = 2 → grdF n (a, p) ∧ grdF n (a, add3 p a 1) ∧ p ∈ cellsF (a, p) ∧ p ∈ cellsF (a, add3 p a 1) := fun a ha => by
      refine ⟨?_, ?_, by simp [cellsF], ?_⟩
      · unfold grdF; dsimp only; omega
      · rcases ha with rfl | rfl | rfl <;> (unfold grdF add3 set3 cmp3; simp; omega)
      · unfold cellsF add3
        simp only [cmp3_set, set3_set]
        refine List.mem_cons_of_mem _ (List.mem_singleton.2 ?_)
        rw [show cmp3 p a + 1 + -1 = cmp3 p a by omega, set3_cmp]
    by_cases hany : ∃ g, p ∈ cellsF g ∧ g ∈ compF (oddL E (n + 1)) f
    · obtain ⟨g, hgp, hgc⟩ := hany
      have key : ∀ h : EF, grdF n h → p ∈ cellsF h → decide (h ∈ compF (oddL E (n + 1)) f) = oddF E h := fun h hh hp => by
        rw [Bool.eq_iff_iff, decide_eq_true_eq]
        constructor
        · intro hm; exact (oddL_mem.1 (compF_mem.1 hm).1).2
        · intro ho
          have hm := oddL_mem.2 ⟨hh, ho⟩
          exact compF_mem.2 ⟨hm, (compF_mem.1 hgc).2.step hm (touch_of hgp hp)⟩
      unfold sixX at hev ⊢
      dsimp only
      rw [key _ (hg 0 (by omega)).1 (hg 0 (by omega)).2.2.1, key _ (hg 0 (by omega)).2.1 (hg 0 (by omega)).2.2.2, key _ (hg 1 (by omega)).1 (hg 1 (by omega)).2.2.1, key _ (hg 1 (by omega)).2.1 (hg 1 (by omega)).2.2.2, key _ (hg 2 (by omega)).1 (hg 2 (by omega)).2.2.1, key _ (hg 2 (by omega)).2.1 (hg 2 (by omega)).2.2.2]
      exact hev
    · have key : ∀ h : EF, p ∈ cellsF h → decide (h ∈ compF (oddL E (n + 1)) f) = false := fun h hp => decide_eq_false fun hm => hany ⟨h, hp, hm⟩
      unfold sixX
      dsimp only
      rw [key _ (hg 0 (by omega)).2.2.1, key _ (hg 0 (by omega)).2.2.2, key _ (hg 1 (by omega)).2.2.1, key _ (hg 1 (by omega)).2.2.2, key _ (hg 2 (by omega)).2.2.1, key _ (hg 2 (by omega)).2.2.2]
      rfl
theorem bestN_le (z : Nat → Nat) : ∀ k, bestN z k ≤ k
  | 0 => Nat.le_refl _
  | k + 1 => by
    have := bestN_le z k
    unfold bestN
    split <;> omega
theorem seal_odd {n : Nat} {g : EF} (hg : grdF n g) : ∀ (ps : List (List EF)) (E : EF → Bool), (∀ P ∈ ps, FineP n P) → oddF (sealN n E ps) g = (oddF E g != par (ps.countP fun P => decide (g ∈ P)))
  | [], E, _ => by simp [sealN, par]
  | P :: ps, E, h => by
    have h1 := seal_odd hg ps (xorE E (patE n (dirP n P) P)) fun Q hQ => h Q (by simp [hQ])
    have hd : dirP n P < 6 := by have := bestN_le (sizD n P) 5; unfold dirP; omega
    rw [show sealN n E (P :: ps) = sealN n (xorE E (patE n (dirP n P) P)) ps from rfl, h1, oddF_xor, pat_face (h P (by simp)) hd hg, List.countP_cons, par_add]
    by_cases hp : g ∈ P
    · rw [decide_eq_true hp, if_pos rfl]; cases oddF E g <;> cases par _ <;> rfl
    · rw [decide_eq_false hp, if_neg (by simp)]; cases oddF E g <;> cases par _ <;> rfl
/-- Sealing leaves no odd face. -/
theorem seal_even {n : Nat} {E : EF → Bool} (hE : InnE n E) : EvenE n (sealN n E (partsF (oddL E (n + 1)))) := by
  intro g hg
  rw [seal_odd hg _ _ fun P hP => by obtain ⟨f, _, rfl⟩ := parts_class hP; exact comp_fine hE f, parts_once g _ (oddL_nodup E _)]
  cases ho : oddF E g with
  | true => rw [decide_eq_true (oddL_mem.2 ⟨hg, ho⟩)]; rfl
  | false => rw [decide_eq_false (fun h => by have := (oddL_mem.1 h).2; rw [ho] at this; cases this)]; rfl
theorem giv_inn (n : Nat) (l : List EF) : InnE n (givE n l) := fun _ h => givE_inn h
/-- The two ways to tell what is inside agree. -/
theorem end_ways (n : Nat) (l : List EF) {x y z : Nat} (hx : x ≤ n) (hy : y ≤ n) (hz : z ≤ n) : insW (endE n l) x y z = insV (endE n l) x y z := ways_agree (seal_even (giv_inn n l)) hx hy hz
end Go.Proofs.Ytdpgohpbannfnaa
/- Layer 7, plain: parities face by face; ordered lists of faces. No program. -/
namespace Go.Proofs.Ytdpgohpbannfnaa
/-- The faces of an edge. -/
def facesE (e : EF) : List EF := [((e.1 + 2) % 3, e.2), ((e.1 + 2) % 3, add3 e.2 ((e.1 + 1) % 3) (-1)), ((e.1 + 1) % 3, e.2), ((e.1 + 1) % 3, add3 e.2 ((e.1 + 2) % 3) (-1))]
def oneE (x : EF) : EF → Bool := togE noE x
theorem oneE_eq (x e : EF) : oneE x e = decide (e = x) := by unfold oneE togE noE; by_cases h : e = x <;> simp [h]
theorem four_one {a b c d : Prop} [Decidable a] [Decidable b] [Decidable c] [Decidable d] {q : Prop} [Decidable q] (h : q ↔ a ∨ b ∨ c ∨ d) (h1 : a → ¬b ∧ ¬c ∧ ¬d) (h2 : b → ¬c ∧ ¬d) (h3 : c → ¬d) : ((decide a != decide b) != (decide c != decide d)) = decide q := by
  by_cases ha : a <;> by_cases hb : b <;> by_cases hc : c <;> by_cases hd : d <;> simp_all
theorem face_one {x f : EF} (hx : 0 ≤ x.1 ∧ x.1 < 3) (hf : 0 ≤ f.1 ∧ f.1 < 3) : oddF (oneE x) f = decide (f ∈ facesE x) := by
  obtain ⟨t, x, y, z⟩ := x
  obtain ⟨b, p, q, r⟩ := f
  dsimp only at hx hf
  have h1 : t = 0 ∨ t = 1 ∨ t = 2 := by omega
  have h2 : b = 0 ∨ b = 1 ∨ b = 2 := by omega
  unfold oddF facesE
  simp only [oneE_eq]
  rcases h1 with rfl | rfl | rfl <;> rcases h2 with rfl | rfl | rfl <;>
    (refine four_one ?_ (fun h => ?_) (fun h => ?_) (fun h => ?_) <;> (unfold add3 set3 cmp3 at *; simp only [Int.reduceAdd, Int.reduceMod, Int.reduceEq, if_true, if_false, Prod.mk.injEq, List.mem_cons, List.not_mem_nil, or_false, true_and, false_and, false_or, not_false_eq_true, and_true] at *; try omega))
theorem facesE_nodup {x : EF} (hx : 0 ≤ x.1 ∧ x.1 < 3) : (facesE x).Nodup := by
  obtain ⟨t, x, y, z⟩ := x
  dsimp only at hx
  have h1 : t = 0 ∨ t = 1 ∨ t = 2 := by omega
  unfold facesE add3 set3 cmp3
  rcases h1 with rfl | rfl | rfl <;> (simp; try omega)
theorem facesE_ax {x f : EF} (h : f ∈ facesE x) : 0 ≤ f.1 ∧ f.1 < 3 := by
  unfold facesE at h
  simp only [List.mem_cons, List.not_mem_nil, or_false] at h
  rcases h with rfl | rfl | rfl | rfl <;> (dsimp only; omega)
theorem oddF_none (f : EF) : oddF noE f = false := rfl
/-- The parity of a face, edge by edge. -/
theorem par_face {L : List EF} (hL : ∀ e ∈ L, 0 ≤ e.1 ∧ e.1 < 3) {f : EF} (hf : 0 ≤ f.1 ∧ f.1 < 3) : togsE noE (L.flatMap facesE) f = oddF (togsE noE L) f := by
  induction L with
  | nil => rfl
  | cons x L ih =>
    have h1 : togsE noE (x :: L) = togsE (oneE x) L := rfl
    rw [List.flatMap_cons, togsE_append, togsE_xor, h1, togsE_xor (oneE x) L, oddF_xor, xorE, ih fun e he => hL e (by simp [he]), face_one (hL x (by simp)) hf, togsE_nodup (facesE_nodup (hL x (by simp)))]
theorem par_off {L : List EF} {f : EF} (hf : ¬ (0 ≤ f.1 ∧ f.1 < 3)) : togsE noE (L.flatMap facesE) f = false := by
  rw [togsE_off]
  · rfl
  · intro h
    obtain ⟨x, _, h⟩ := List.mem_flatMap.1 h
    exact hf (facesE_ax h)
/-- An odd face lies in the grid. -/
theorem odd_grd {n : Nat} {E : EF → Bool} (hE : InnE n E) {f : EF} (hf : 0 ≤ f.1 ∧ f.1 < 3) (ho : oddF E f = true) : grdF n f := by
  obtain ⟨b, x, y, z⟩ := f
  dsimp only at hf
  have one : ∃ e : EF, E e = true ∧ (e = ((b + 1) % 3, (x, y, z)) ∨ e = ((b + 1) % 3, add3 (x, y, z) ((b + 2) % 3) 1) ∨ e = ((b + 2) % 3, (x, y, z)) ∨ e = ((b + 2) % 3, add3 (x, y, z) ((b + 1) % 3) 1)) := by
    unfold oddF at ho
    dsimp only at ho
    rcases Classical.em (∃ e : EF, E e = true ∧ (e = ((b + 1) % 3, (x, y, z)) ∨ e = ((b + 1) % 3, add3 (x, y, z) ((b + 2) % 3) 1) ∨ e = ((b + 2) % 3, (x, y, z)) ∨ e = ((b + 2) % 3, add3 (x, y, z) ((b + 1) % 3) 1))) with h | h
    · exact h
    · exfalso
      have off : ∀ e : EF, (e = ((b + 1) % 3, (x, y, z)) ∨ e = ((b + 1) % 3, add3 (x, y, z) ((b + 2) % 3) 1) ∨ e = ((b + 2) % 3, (x, y, z)) ∨ e = ((b + 2) % 3, add3 (x, y, z) ((b + 1) % 3) 1)) → E e = false := fun e he => by
        cases hv : E e with
        | false => rfl
        | true => exact absurd ⟨e, hv, he⟩ h
      rw [off _ (.inl rfl), off _ (.inr (.inl rfl)), off _ (.inr (.inr (.inl rfl))), off _ (.inr (.inr (.inr rfl)))] at ho
      cases ho
  obtain ⟨e, he, hc⟩ := one
  have hi := hE e he
  have h2 : b = 0 ∨ b = 1 ∨ b = 2 := by omega
  unfold grdF
  dsimp only
  unfold add3 set3 cmp3 at hc
  rcases h2 with rfl | rfl | rfl <;> simp only [Int.reduceAdd, Int.reduceMod, Int.reduceEq, if_true, if_false] at hc <;>
    (rcases hc with rfl | rfl | rfl | rfl <;> (unfold innE at hi; simp only [Bool.and_eq_true, decide_eq_true_eq] at hi; omega))
theorem oddL_mem2 {n : Nat} {E : EF → Bool} (hE : InnE n E) {f : EF} : f ∈ oddL E (n + 1) ↔ (0 ≤ f.1 ∧ f.1 < 3) ∧ oddF E f = true := by
  rw [oddL_mem]
  exact ⟨fun h => ⟨h.1.1, h.2⟩, fun h => ⟨odd_grd hE h.1 h.2, h.2⟩⟩
/-- Each edge of the border is none: an odd face touches no side of the grid. -/
theorem odd_inside {n : Nat} {E : EF → Bool} (hE : InnE n E) {f : EF} (hf : f ∈ oddL E (n + 1)) : 0 < cmp3 f.2 f.1 ∧ cmp3 f.2 f.1 < n := by
  have h := oddL_mem.1 hf
  exact odd_low hE h.1 h.2
end Go.Proofs.Ytdpgohpbannfnaa
/- Layer 7, plain: the edges of a field whose border is outside; one edge more or less. No program. -/
namespace Go.Proofs.Ytdpgohpbannfnaa
/-- A field as a function of the vertices; nothing of the border is inside. -/
def outV (n : Nat) (V : Pt → Bool) : Prop := ∀ p : Pt, (0 ≤ p.1 ∧ p.1 ≤ n) → (0 ≤ p.2.1 ∧ p.2.1 ≤ n) → (0 ≤ p.2.2 ∧ p.2.2 ≤ n) → (p.1 = 0 ∨ p.2.1 = 0 ∨ p.2.2 = 0 ∨ p.1 = n ∨ p.2.1 = n ∨ p.2.2 = n) → V p = false
def gradE (n : Nat) (V : Pt → Bool) (e : EF) : Bool := innE n e && (V e.2 != V (add3 e.2 e.1 1))
/-- An edge of the grid. -/
def grdE (n : Nat) (e : EF) : Prop := (0 ≤ e.1 ∧ e.1 < 3) ∧ (0 ≤ e.2.1 ∧ 0 ≤ e.2.2.1 ∧ 0 ≤ e.2.2.2) ∧ (e.2.1 ≤ n ∧ e.2.2.1 ≤ n ∧ e.2.2.2 ≤ n) ∧ ((e.1 ≠ 0 ∨ e.2.1 < n) ∧ (e.1 ≠ 1 ∨ e.2.2.1 < n) ∧ (e.1 ≠ 2 ∨ e.2.2.2 < n))
theorem inn_grd {n : Nat} {e : EF} (h : innE n e = true) : grdE n e := by
  unfold innE at h
  simp only [Bool.and_eq_true, decide_eq_true_eq] at h
  unfold grdE
  omega
section
variable {n : Nat} {V : Pt → Bool}
/-- On the grid's edges it is what differs. -/
theorem gradE_grid (hV : outV n V) {e : EF} (he : grdE n e) : gradE n V e = (V e.2 != V (add3 e.2 e.1 1)) := by
  unfold gradE
  cases hi : innE n e with
  | true => rw [Bool.true_and]
  | false =>
    obtain ⟨t, x, y, z⟩ := e
    unfold grdE at he
    dsimp only at he ⊢
    have h1 : t = 0 ∨ t = 1 ∨ t = 2 := by omega
    have ho : ¬ innE n (t, x, y, z) = true := by rw [hi]; simp
    unfold innE at ho
    simp only [Bool.and_eq_true, decide_eq_true_eq] at ho
    unfold add3 set3 cmp3
    rcases h1 with rfl | rfl | rfl <;> simp only [Int.reduceEq, if_true, if_false] <;>
      (rw [hV (x, y, z) (by dsimp only; omega) (by dsimp only; omega) (by dsimp only; omega) (by dsimp only; omega)]
       first
        | rw [hV (x + 1, y, z) (by dsimp only; omega) (by dsimp only; omega) (by dsimp only; omega) (by dsimp only; omega)]
        | rw [hV (x, y + 1, z) (by dsimp only; omega) (by dsimp only; omega) (by dsimp only; omega) (by dsimp only; omega)]
        | rw [hV (x, y, z + 1) (by dsimp only; omega) (by dsimp only; omega) (by dsimp only; omega) (by dsimp only; omega)]
       rfl)
theorem grad_even (hV : outV n V) : EvenE n (gradE n V) := by
  rintro ⟨b, x, y, z⟩ hf
  unfold grdF at hf
  dsimp only at hf
  have h1 : b = 0 ∨ b = 1 ∨ b = 2 := by omega
  unfold oddF
  rcases h1 with rfl | rfl | rfl <;> simp only [Int.reduceAdd, Int.reduceMod] <;>
    (rw [gradE_grid hV (by unfold grdE; dsimp only; omega), gradE_grid hV (by unfold grdE; simp [add3, set3, cmp3]; omega), gradE_grid hV (by unfold grdE; dsimp only; omega), gradE_grid hV (by unfold grdE; simp [add3, set3, cmp3]; omega)]
     unfold add3 set3 cmp3
     simp only [Int.reduceEq, if_true, if_false]
     generalize V _ = a1
     generalize V _ = a2
     generalize V _ = a3
     generalize V _ = a4
     cases a1 <;> cases a2 <;> cases a3 <;> cases a4 <;> rfl)
/-- What the edges of a field separate is the field. -/
theorem grad_ins (hV : outV n V) {x y z : Nat} (hx : x ≤ n) (hy : y ≤ n) (hz : z ≤ n) : insV (gradE n V) x y z = V ((x : Int), (y : Int), (z : Int)) := by
  have e0 : xorN (fun i : Nat => gradE n V (0, (i : Int), 0, 0)) x = (V (0, 0, 0) != V ((x : Int), 0, 0)) := by
    rw [← show V (((0 : Nat) : Int), 0, 0) = V (0, 0, 0) from rfl, ← xorN_tele (fun i : Nat => V ((i : Int), 0, 0)) x]
    refine xorN_congr fun i hi => ?_
    rw [gradE_grid hV (by unfold grdE; dsimp only; omega)]
    rfl
  have e1 : xorN (fun i : Nat => gradE n V (1, (x : Int), (i : Int), 0)) y = (V ((x : Int), 0, 0) != V ((x : Int), (y : Int), 0)) := by
    rw [← show V ((x : Int), ((0 : Nat) : Int), 0) = V ((x : Int), 0, 0) from rfl, ← xorN_tele (fun i : Nat => V ((x : Int), (i : Int), 0)) y]
    refine xorN_congr fun i hi => ?_
    rw [gradE_grid hV (by unfold grdE; dsimp only; omega)]
    rfl
  have e2 : xorN (fun i : Nat => gradE n V (2, (x : Int), (y : Int), (i : Int))) z = (V ((x : Int), (y : Int), 0) != V ((x : Int), (y : Int), (z : Int))) := by
    rw [← show V ((x : Int), (y : Int), ((0 : Nat) : Int)) = V ((x : Int), (y : Int), 0) from rfl, ← xorN_tele (fun i : Nat => V ((x : Int), (y : Int), (i : Int))) z]
    refine xorN_congr fun i hi => ?_
    rw [gradE_grid hV (by unfold grdE; dsimp only; omega)]
    rfl
  unfold insV
  rw [e0, e1, e2, hV (0, 0, 0) (by dsimp only; omega) (by dsimp only; omega) (by dsimp only; omega) (.inl rfl)]
  generalize V _ = a1
  generalize V _ = a2
  generalize V _ = a3
  cases a1 <;> cases a2 <;> cases a3 <;> rfl
theorem even_none {E : EF → Bool} (h : EvenE n E) : oddL E (n + 1) = [] := by
  refine List.eq_nil_iff_forall_not_mem.2 fun f hf => ?_
  have hm := oddL_mem.1 hf
  rw [h f hm.1] at hm
  cases hm.2
/-! One edge more or less. -/
theorem odd_one (hV : outV n V) {e : EF} (he : innE n e = true) {f : EF} : f ∈ oddL (togE (gradE n V) e) (n + 1) ↔ f ∈ facesE e := by
  have h3 := (inn_grd he).1
  have hx : togE (gradE n V) e = xorE (gradE n V) (oneE e) := togsE_xor (gradE n V) [e]
  have hI : InnE n (togE (gradE n V) e) := fun x hx => by
    unfold togE at hx
    split at hx
    · rename_i hxe; rw [hxe]; exact he
    · unfold gradE at hx; rw [Bool.and_eq_true] at hx; exact hx.1
  rw [oddL_mem]
  constructor
  · rintro ⟨hg, ho⟩
    rw [hx, oddF_xor, grad_even hV f hg, face_one h3 hg.1] at ho
    simpa using ho
  · intro hf
    have hf3 := facesE_ax hf
    have key : ∀ g : EF, grdF n g → (oddF (togE (gradE n V) e) g = true ↔ g ∈ facesE e) := fun g hg => by
      rw [hx, oddF_xor, grad_even hV g hg, face_one h3 hg.1]
      simp
    have hg : grdF n f := by
      obtain ⟨t, x, y, z⟩ := e
      unfold innE at he
      simp only [Bool.and_eq_true, decide_eq_true_eq] at he
      unfold facesE add3 set3 cmp3 at hf
      have h1 : t = 0 ∨ t = 1 ∨ t = 2 := by omega
      unfold grdF
      rcases h1 with rfl | rfl | rfl <;> (simp only [Int.reduceAdd, Int.reduceMod, Int.reduceEq, if_true, if_false, List.mem_cons, List.not_mem_nil, or_false] at hf; rcases hf with rfl | rfl | rfl | rfl <;> (dsimp only; omega))
    exact ⟨hg, (key f hg).2 hf⟩
end
end Go.Proofs.Ytdpgohpbannfnaa
/- Layer 7, plain: one edge more or less is mended. No program. -/
namespace Go.Proofs.Ytdpgohpbannfnaa
/-! All edges by number. -/
theorem vtxS_inj {s i j : Nat} (h : vtxS s i = vtxS s j) : i = j := by
  rcases Nat.lt_trichotomy i j with h1 | h1 | h1
  · have := ltF_vtx (a := 0) (s := s) h1
    rw [h, ltF_irrefl] at this
    cases this
  · exact h1
  · have := ltF_vtx (a := 0) (s := s) h1
    rw [h, ltF_irrefl] at this
    cases this
theorem edgS_inj {s i j : Nat} (h : edgS s i = edgS s j) : i = j := by
  unfold edgS at h
  obtain ⟨h1, h2⟩ := Prod.mk.inj h
  have h3 := vtxS_inj h2
  have h4 : i / (s * s * s) = j / (s * s * s) := by omega
  have e1 := Nat.div_add_mod i (s * s * s)
  have e2 := Nat.div_add_mod j (s * s * s)
  rw [h3, h4] at e1
  exact e1.symm.trans e2
theorem allE_nodup (s : Nat) : (allE s).Nodup := by
  unfold allE List.Nodup
  rw [List.pairwise_map]
  exact List.nodup_range.imp fun hne e => hne (edgS_inj e)
theorem allE_mem {n : Nat} {e : EF} : e ∈ allE (n + 1) ↔ (0 ≤ e.1 ∧ e.1 < 3) ∧ (0 ≤ e.2.1 ∧ e.2.1 ≤ n) ∧ (0 ≤ e.2.2.1 ∧ e.2.2.1 ≤ n) ∧ (0 ≤ e.2.2.2 ∧ e.2.2.2 ≤ n) := by
  have hS : 0 < (n + 1) * (n + 1) * (n + 1) := Nat.mul_pos (Nat.mul_pos (by omega) (by omega)) (by omega)
  unfold allE
  rw [List.mem_map]
  constructor
  · rintro ⟨k, hk, rfl⟩
    have hk := List.mem_range.1 hk
    obtain ⟨v1, v2, v3⟩ := vtxS_lt (Nat.mod_lt k hS)
    have h3 : k / ((n + 1) * (n + 1) * (n + 1)) < 3 := (Nat.div_lt_iff_lt_mul hS).2 hk
    unfold edgS
    dsimp only
    generalize k / ((n + 1) * (n + 1) * (n + 1)) = q at *
    omega
  · rintro ⟨h1, h2, h3, h4⟩
    obtain ⟨k, hk, hv⟩ := vtxS_of (s := n + 1) (p := e.2) (by omega) (by omega) (by omega)
    refine ⟨e.1.toNat * ((n + 1) * (n + 1) * (n + 1)) + k, List.mem_range.2 ?_, ?_⟩
    · have h5 : e.1.toNat ≤ 2 := by omega
      have := Nat.mul_le_mul_right ((n + 1) * (n + 1) * (n + 1)) h5
      omega
    · unfold edgS
      rw [Nat.mul_comm e.1.toNat, Nat.mul_add_div hS, Nat.div_eq_of_lt hk, Nat.mul_add_mod, Nat.mod_eq_of_lt hk, hv]
      refine Prod.ext ?_ rfl
      dsimp only
      omega
theorem grdE_all {n : Nat} {e : EF} (h : grdE n e) : e ∈ allE (n + 1) := allE_mem.2 (by unfold grdE at h; omega)
/-- A face's edges are edges of the grid. -/
theorem face_edges {n : Nat} {f : EF} (hf : grdF n f) : grdE n ((f.1 + 1) % 3, f.2) ∧ grdE n ((f.1 + 1) % 3, add3 f.2 ((f.1 + 2) % 3) 1) ∧ grdE n ((f.1 + 2) % 3, f.2) ∧ grdE n ((f.1 + 2) % 3, add3 f.2 ((f.1 + 1) % 3) 1) := by
  obtain ⟨b, x, y, z⟩ := f
  unfold grdF at hf
  dsimp only at hf ⊢
  have h1 : b = 0 ∨ b = 1 ∨ b = 2 := by omega
  unfold grdE add3 set3 cmp3
  rcases h1 with rfl | rfl | rfl <;> (simp only [Int.reduceAdd, Int.reduceMod, Int.reduceEq, if_true, if_false]; omega)
theorem oddF_congr {n : Nat} {E T : EF → Bool} (h : ∀ e ∈ allE (n + 1), E e = T e) {f : EF} (hf : grdF n f) : oddF E f = oddF T f := by
  obtain ⟨h1, h2, h3, h4⟩ := face_edges hf
  unfold oddF
  rw [h _ (grdE_all h1), h _ (grdE_all h2), h _ (grdE_all h3), h _ (grdE_all h4)]
theorem bestN_min (z : Nat → Nat) : ∀ k d, d ≤ k → z (bestN z k) ≤ z d
  | 0, d, h => by rw [show d = 0 by omega]; exact Nat.le_refl _
  | k + 1, d, h => by
    have ih := bestN_min z k
    unfold bestN
    by_cases hd : d = k + 1
    · subst hd
      split <;> omega
    · have := ih d (by omega)
      split <;> omega
/-- One component. -/
theorem parts_one {f : EF} {l : List EF} (hn : (f :: l).Nodup) (hc : ∀ g ∈ f :: l, Conn (f :: l) f g) : partsF (f :: l) = [f :: l] := by
  rw [partsF_cons hn]
  have h1 : compF (f :: l) f = f :: l := by
    unfold compF
    exact List.filter_eq_self.2 fun g hg => connB_iff.2 (hc g hg)
  have h2 : restF (f :: l) f = [] := by
    unfold restF
    exact List.filter_eq_nil_iff.2 fun g hg => by rw [connB_iff.2 (hc g hg)]; simp
  rw [h1, h2, partsF_nil]
section
variable {e : EF} {l : List EF}
/-- The four faces of an edge hang together. -/
theorem faces_conn (h3 : 0 ≤ e.1 ∧ e.1 < 3) (hl : ∀ f, f ∈ l ↔ f ∈ facesE e) : ∀ f ∈ l, ∀ g ∈ l, Conn l f g := by
  obtain ⟨t, x, y, z⟩ := e
  dsimp only at h3
  have h1 : t = 0 ∨ t = 1 ∨ t = 2 := by omega
  obtain ⟨A, hA⟩ : ∃ A : EF, A = ((t + 2) % 3, (x, y, z)) := ⟨_, rfl⟩
  obtain ⟨B, hB⟩ : ∃ A : EF, A = ((t + 2) % 3, add3 (x, y, z) ((t + 1) % 3) (-1)) := ⟨_, rfl⟩
  obtain ⟨C, hC⟩ : ∃ A : EF, A = ((t + 1) % 3, (x, y, z)) := ⟨_, rfl⟩
  obtain ⟨D, hD⟩ : ∃ A : EF, A = ((t + 1) % 3, add3 (x, y, z) ((t + 2) % 3) (-1)) := ⟨_, rfl⟩
  have hF : facesE (t, x, y, z) = [A, B, C, D] := by rw [hA, hB, hC, hD]; rfl
  rw [hF] at hl
  have t1 : touch A C = true := touch_of (p := (x, y, z)) (by rw [hA]; simp [cellsF]) (by rw [hC]; simp [cellsF])
  have t2 : touch C B = true := touch_of (p := add3 (x, y, z) ((t + 1) % 3) (-1)) (by rw [hC]; simp [cellsF]) (by rw [hB]; simp [cellsF])
  have t3 : touch A D = true := touch_of (p := add3 (x, y, z) ((t + 2) % 3) (-1)) (by rw [hA]; simp [cellsF]) (by rw [hD]; simp [cellsF])
  have mA : A ∈ l := (hl A).2 (by simp)
  have mB : B ∈ l := (hl B).2 (by simp)
  have mC : C ∈ l := (hl C).2 (by simp)
  have mD : D ∈ l := (hl D).2 (by simp)
  have cC := (Conn.refl l A).step mC t1
  have cB := cC.step mB t2
  have cD := (Conn.refl l A).step mD t3
  have all : ∀ f ∈ l, Conn l A f := fun f hf => by
    have := (hl f).1 hf
    simp only [List.mem_cons, List.not_mem_nil, or_false] at this
    rcases this with rfl | rfl | rfl | rfl
    · exact Conn.refl _ _
    · exact cB
    · exact cC
    · exact cD
  exact fun f hf g hg => ((all f hf).symm mA).trans (all g hg)
end
end Go.Proofs.Ytdpgohpbannfnaa
/- Layer 7, plain: the patch of one edge is this edge. No program. -/
namespace Go.Proofs.Ytdpgohpbannfnaa
theorem faces_inj {e e' : EF} (h3 : 0 ≤ e.1 ∧ e.1 < 3) (h3' : 0 ≤ e'.1 ∧ e'.1 < 3) (h : ∀ g ∈ facesE e, g ∈ facesE e') : e = e' := by
  obtain ⟨t, x, y, z⟩ := e
  obtain ⟨t', x', y', z'⟩ := e'
  dsimp only at h3 h3'
  have h1 : t = 0 ∨ t = 1 ∨ t = 2 := by omega
  have h2 : t' = 0 ∨ t' = 1 ∨ t' = 2 := by omega
  have a := h ((t + 2) % 3, (x, y, z)) (by simp [facesE])
  have b := h ((t + 2) % 3, add3 (x, y, z) ((t + 1) % 3) (-1)) (by simp [facesE])
  have c := h ((t + 1) % 3, (x, y, z)) (by simp [facesE])
  have d := h ((t + 1) % 3, add3 (x, y, z) ((t + 2) % 3) (-1)) (by simp [facesE])
  clear h
  unfold facesE at a b c d
  unfold add3 set3 cmp3 at a b c d
  rcases h1 with rfl | rfl | rfl <;> rcases h2 with rfl | rfl | rfl <;>
    (simp only [Int.reduceAdd, Int.reduceMod, Int.reduceEq, if_true, if_false, Prod.mk.injEq, List.mem_cons, List.not_mem_nil, or_false, true_and, false_and, false_or, Int.zero_add] at a b c d <;> first | (simp only [Prod.mk.injEq, true_and]; omega) | (exfalso; omega))
section
variable {n : Nat} {V : Pt → Bool} {e : EF}
theorem one_len (hV : outV n V) (he : innE n e = true) : (oddL (togE (gradE n V) e) (n + 1)).length = 4 := by
  have h3 := (inn_grd he).1
  have hp : (oddL (togE (gradE n V) e) (n + 1)).Perm (facesE e) := (List.perm_ext_iff_of_nodup (oddL_nodup _ _) (facesE_nodup h3)).2 fun f => odd_one hV he
  exact hp.length_eq
theorem one_parts (hV : outV n V) (he : innE n e = true) : partsF (oddL (togE (gradE n V) e) (n + 1)) = [oddL (togE (gradE n V) e) (n + 1)] := by
  have h3 := (inn_grd he).1
  have hlen := one_len hV he
  have hc := faces_conn (l := oddL (togE (gradE n V) e) (n + 1)) h3 fun f => odd_one hV he
  have hn := oddL_nodup (togE (gradE n V) e) (n + 1)
  generalize oddL (togE (gradE n V) e) (n + 1) = l at *
  cases l with
  | nil => cases hlen
  | cons f l => exact parts_one hn fun g hg => hc f (by simp) g hg
theorem tog_inn (he : innE n e = true) : InnE n (togE (gradE n V) e) := fun x hx => by
  unfold togE at hx
  split at hx
  · rename_i hxe; rw [hxe]; exact he
  · unfold gradE at hx; rw [Bool.and_eq_true] at hx; exact hx.1
theorem one_fine (hV : outV n V) (he : innE n e = true) : FineP n (oddL (togE (gradE n V) e) (n + 1)) := by
  have hp := one_parts hV he
  have hm : oddL (togE (gradE n V) e) (n + 1) ∈ partsF (oddL (togE (gradE n V) e) (n + 1)) := by rw [hp]; simp
  obtain ⟨f, _, hf⟩ := parts_class hm
  rw [hf]
  exact comp_fine (tog_inn he) f
theorem one_low (hV : outV n V) (he : innE n e = true) {d : Nat} (hd : d < 6) : 1 ≤ sizD n (oddL (togE (gradE n V) e) (n + 1)) d := by
  have hF := one_fine hV he
  have hm : ((e.1 + 2) % 3, e.2) ∈ oddL (togE (gradE n V) e) (n + 1) := (odd_one hV he).2 (by simp [facesE])
  generalize oddL (togE (gradE n V) e) (n + 1) = l at *
  rcases Nat.lt_or_ge 0 (sizD n l d) with h | h
  · exact h
  · exfalso
    have h0 : cntE (n + 1) (patE n d l) = 0 := by unfold sizD at h; omega
    have hno : ∀ x ∈ allE (n + 1), patE n d l x = noE x := fun x hx => by
      have := List.countP_eq_zero.1 h0 x hx
      show _ = false
      simpa using this
    have hg := hF.grd _ hm
    have h1 := pat_face hF hd hg
    rw [oddF_congr hno hg, oddF_none, decide_eq_true hm] at h1
    cases h1
theorem xorN_false : ∀ n, xorN (fun _ => false) n = false
  | 0 => rfl
  | n + 1 => by rw [xorN, xorN_false n]; rfl
/-- Towards smaller coordinates, along another axis, the patch is the edge. -/
theorem one_up (hV : outV n V) (he : innE n e = true) : ∃ d, d < 6 ∧ sizD n (oddL (togE (gradE n V) e) (n + 1)) d = 1 := by
  have h3 := (inn_grd he).1
  have hF := one_fine hV he
  have hl : ∀ f, f ∈ oddL (togE (gradE n V) e) (n + 1) ↔ f ∈ facesE e := fun f => odd_one hV he
  generalize oddL (togE (gradE n V) e) (n + 1) = l at *
  obtain ⟨t, c⟩ := e
  dsimp only at h3
  have ht : t = 0 ∨ t = 1 ∨ t = 2 := by omega
  obtain ⟨d, hd, hda, hd2⟩ : ∃ d : Nat, d < 6 ∧ dirA d = (t + 1) % 3 ∧ ¬ d % 2 = 1 := by
    rcases ht with rfl | rfl | rfl
    · exact ⟨2, by decide, by decide, by decide⟩
    · exact ⟨4, by decide, by decide, by decide⟩
    · exact ⟨0, by decide, by decide, by decide⟩
  refine ⟨d, hd, ?_⟩
  have ca : 0 < cmp3 c (dirA d) ∧ cmp3 c (dirA d) < n := by
    unfold innE at he
    simp only [Bool.and_eq_true, decide_eq_true_eq] at he
    rw [hda]
    rcases ht with rfl | rfl | rfl <;> (unfold cmp3; simp; omega)
  have key : ∀ x ∈ allE (n + 1), patE n d l x = oneE (t, c) x := fun x hx => by
    obtain ⟨t', q⟩ := x
    obtain ⟨x1, x2, x3, x4⟩ := allE_mem.1 hx
    dsimp only at x1 x2 x3 x4
    rw [oneE_eq]
    by_cases hta : t' = dirA d
    · rw [hta, row_none (fun f hf h => by have := (hF.grd f hf).1; have := dirA_ax hd; omega) q]
      symm
      exact decide_eq_false fun h => by have := congrArg Prod.fst h; dsimp only at this; omega
    · have ha := dirA_ax hd
      have qa : 0 ≤ cmp3 q (dirA d) ∧ cmp3 q (dirA d) ≤ n := by rcases ha with e | e | e <;> rw [e] <;> (unfold cmp3; simp; omega)
      obtain ⟨k, hk⟩ : ∃ k : Nat, cmp3 q (dirA d) = k := ⟨(cmp3 q (dirA d)).toNat, by omega⟩
      by_cases htt : t' = t
      · subst htt
        obtain ⟨m, hm⟩ : ∃ m, m = 3 - dirA d - t' := ⟨_, rfl⟩
        have hm2 : m = (t' + 2) % 3 := by omega
        rw [row_law hF.nd hF.grd hd hm (by omega) q k hk (by omega), if_neg hd2]
        have hf : ∀ y : Nat, decide ((m, set3 q (dirA d) (y : Int)) ∈ l) = (decide (set3 q (dirA d) (y : Int) = c) != decide (set3 q (dirA d) ((y + 1 : Nat) : Int) = c)) := fun y => by
          have e1 : (m, set3 q (dirA d) (y : Int)) ∈ l ↔ (set3 q (dirA d) (y : Int) = c ∨ set3 q (dirA d) ((y + 1 : Nat) : Int) = c) := by
            rw [hl]
            unfold facesE
            simp only [List.mem_cons, List.not_mem_nil, or_false, Prod.mk.injEq]
            rw [← hda]
            constructor
            · rintro (⟨_, h⟩ | ⟨_, h⟩ | ⟨h, _⟩ | ⟨h, _⟩)
              · exact .inl h
              · refine .inr ?_
                have h4 : cmp3 (set3 q (dirA d) (y : Int)) (dirA d) = cmp3 (add3 c (dirA d) (-1)) (dirA d) := congrArg (fun p => cmp3 p (dirA d)) h
                unfold add3 at h4
                rw [cmp3_set, cmp3_set] at h4
                have h5 : set3 (set3 q (dirA d) (y : Int)) (dirA d) ((y + 1 : Nat) : Int) = set3 (add3 c (dirA d) (-1)) (dirA d) ((y + 1 : Nat) : Int) := congrArg (fun p => set3 p (dirA d) ((y + 1 : Nat) : Int)) h
                unfold add3 at h5
                rw [set3_set, set3_set] at h5
                rw [h5, show ((y + 1 : Nat) : Int) = cmp3 c (dirA d) by omega, set3_cmp]
              · omega
              · omega
            · rintro (h | h)
              · exact .inl ⟨hm2, h⟩
              · refine .inr (.inl ⟨hm2, ?_⟩)
                rw [← h]
                unfold add3
                rw [cmp3_set, set3_set]
                congr 1
                omega
          have e2 : ¬ (set3 q (dirA d) (y : Int) = c ∧ set3 q (dirA d) ((y + 1 : Nat) : Int) = c) := fun ⟨a, b⟩ => by
            have h4 : cmp3 (set3 q (dirA d) (y : Int)) (dirA d) = cmp3 (set3 q (dirA d) ((y + 1 : Nat) : Int)) (dirA d) := congrArg (fun p => cmp3 p (dirA d)) (a.trans b.symm)
            rw [cmp3_set, cmp3_set] at h4
            omega
          by_cases a : set3 q (dirA d) (y : Int) = c <;> by_cases b : set3 q (dirA d) ((y + 1 : Nat) : Int) = c
          · exact absurd ⟨a, b⟩ e2
          · rw [decide_eq_true (e1.2 (.inl a)), decide_eq_true a, decide_eq_false b]; rfl
          · rw [decide_eq_true (e1.2 (.inr b)), decide_eq_false a, decide_eq_true b]; rfl
          · rw [decide_eq_false (fun h => (e1.1 h).elim a b), decide_eq_false a, decide_eq_false b]; rfl
        have S : ∀ j, xorN (fun y : Nat => decide ((m, set3 q (dirA d) (y : Int)) ∈ l)) j = (decide (set3 q (dirA d) ((0 : Nat) : Int) = c) != decide (set3 q (dirA d) (j : Int) = c)) := fun j => by
          rw [xorN_congr fun y _ => hf y]
          exact xorN_tele (fun y : Nat => decide (set3 q (dirA d) (y : Int) = c)) j
        have z0 : decide (set3 q (dirA d) ((0 : Nat) : Int) = c) = false := decide_eq_false fun h => by
          have h4 : cmp3 (set3 q (dirA d) ((0 : Nat) : Int)) (dirA d) = cmp3 c (dirA d) := congrArg (fun p => cmp3 p (dirA d)) h
          rw [cmp3_set] at h4
          omega
        have zn : decide (set3 q (dirA d) (n : Int) = c) = false := decide_eq_false fun h => by
          have h4 : cmp3 (set3 q (dirA d) (n : Int)) (dirA d) = cmp3 c (dirA d) := congrArg (fun p => cmp3 p (dirA d)) h
          rw [cmp3_set] at h4
          omega
        rw [S, S, z0, zn, ← hk, set3_cmp]
        by_cases h : q = c
        · rw [decide_eq_true h, decide_eq_true (by rw [h])]; rfl
        · rw [decide_eq_false h, decide_eq_false (fun h2 => h (Prod.mk.inj h2).2)]; rfl
      · obtain ⟨m, hm⟩ : ∃ m, m = 3 - dirA d - t' := ⟨_, rfl⟩
        have hm2 : m = t := by omega
        rw [row_law hF.nd hF.grd hd hm (by omega) q k hk (by omega), if_neg hd2]
        have hf : ∀ y : Nat, decide ((m, set3 q (dirA d) (y : Int)) ∈ l) = false := fun y => decide_eq_false fun h => by
          have := (hl _).1 h
          unfold facesE at this
          simp only [List.mem_cons, List.not_mem_nil, or_false, Prod.mk.injEq] at this
          omega
        rw [xorN_congr fun y _ => hf y, xorN_congr fun y _ => hf y, xorN_false, xorN_false]
        symm
        exact decide_eq_false fun h => htt (congrArg Prod.fst h)
  unfold sizD cntE
  rw [List.countP_congr fun x hx => by rw [key x hx]]
  have hmem := grdE_all (inn_grd he)
  have : (allE (n + 1)).countP (oneE (t, c)) = (allE (n + 1)).count (t, c) := by
    unfold List.count
    exact List.countP_congr fun x _ => by rw [oneE_eq]; simp
  rw [this]
  exact (allE_nodup (n + 1)).count.trans (if_pos hmem)
/-- The patch is of one edge, and the field's edges are given back. -/
theorem one_best (hV : outV n V) (he : innE n e = true) : sizD n (oddL (togE (gradE n V) e) (n + 1)) (dirP n (oddL (togE (gradE n V) e) (n + 1))) = 1 := by
  obtain ⟨d, hd, h1⟩ := one_up hV he
  have hm := bestN_min (sizD n (oddL (togE (gradE n V) e) (n + 1))) 5 d (by omega)
  have hb := bestN_le (sizD n (oddL (togE (gradE n V) e) (n + 1))) 5
  have hl := one_low hV he (d := dirP n (oddL (togE (gradE n V) e) (n + 1))) (by unfold dirP; omega)
  unfold dirP at *
  omega
theorem one_back (hV : outV n V) (he : innE n e = true) : ∀ x ∈ allE (n + 1), sealN n (togE (gradE n V) e) (partsF (oddL (togE (gradE n V) e) (n + 1))) x = gradE n V x := by
  have h3 := (inn_grd he).1
  have hF := one_fine hV he
  have hb := one_best hV he
  have hl : ∀ f, f ∈ oddL (togE (gradE n V) e) (n + 1) ↔ f ∈ facesE e := fun f => odd_one hV he
  rw [one_parts hV he]
  have hd : dirP n (oddL (togE (gradE n V) e) (n + 1)) < 6 := by have := bestN_le (sizD n (oddL (togE (gradE n V) e) (n + 1))) 5; unfold dirP; omega
  generalize oddL (togE (gradE n V) e) (n + 1) = l at *
  unfold sizD cntE at hb
  have hx0 : ∀ x, sealN n (togE (gradE n V) e) [l] x = (togE (gradE n V) e x != patE n (dirP n l) l x) := fun _ => rfl
  generalize dirP n l = d at *
  rw [List.countP_eq_length_filter] at hb
  obtain ⟨e', he'⟩ := List.length_eq_one_iff.1 hb
  have hT : ∀ x ∈ allE (n + 1), patE n d l x = oneE e' x := fun x hx => by
    rw [oneE_eq, Bool.eq_iff_iff, decide_eq_true_eq]
    have : x ∈ (allE (n + 1)).filter (patE n d l) ↔ x = e' := by rw [he']; simp
    rw [List.mem_filter] at this
    exact ⟨fun h => this.1 ⟨hx, h⟩, fun h => (this.2 h).2⟩
  have hm' : e' ∈ allE (n + 1) := by
    have : e' ∈ (allE (n + 1)).filter (patE n d l) := by rw [he']; simp
    exact (List.mem_filter.1 this).1
  have hee : e = e' := by
    refine faces_inj h3 (allE_mem.1 hm').1 fun g hg => ?_
    have hgl := (hl g).2 hg
    have h1 := pat_face hF hd (hF.grd g hgl)
    rw [oddF_congr hT (hF.grd g hgl), face_one (allE_mem.1 hm').1 (hF.grd g hgl).1, decide_eq_true hgl] at h1
    exact of_decide_eq_true h1
  intro x hx
  rw [hx0, hT x hx, oneE_eq, ← hee]
  unfold togE
  by_cases h : x = e
  · rw [if_pos h, decide_eq_true h]; cases gradE n V x <;> rfl
  · rw [if_neg h, decide_eq_false h]; cases gradE n V x <;> rfl
end
end Go.Proofs.Ytdpgohpbannfnaa
/- Layer 7, plain: each cell's odd faces are even in number; sets of edges far from each other are sealed apart. No program. -/
namespace Go.Proofs.Ytdpgohpbannfnaa
/-! Cells. -/
theorem count_swap {l m : List EF} (hl : l.Nodup) (hm : m.Nodup) : (l.countP fun f => decide (f ∈ m)) = m.countP fun f => decide (f ∈ l) := by
  rw [List.countP_eq_length_filter, List.countP_eq_length_filter]
  refine List.Perm.length_eq ((List.perm_ext_iff_of_nodup (hl.filter _) (hm.filter _)).2 fun x => ?_)
  rw [List.mem_filter, List.mem_filter, decide_eq_true_eq, decide_eq_true_eq]
  exact And.comm
theorem par_three {m : List EF} {a b c : EF} (h : [a, b, c].Nodup) (hm : m.Nodup) : par (m.countP fun f => decide (f ∈ [a, b, c])) = ((decide (a ∈ m) != decide (b ∈ m)) != decide (c ∈ m)) := by
  rw [count_swap hm h, List.countP_cons, List.countP_cons, List.countP_cons, List.countP_nil]
  by_cases ha : a ∈ m <;> by_cases hb : b ∈ m <;> by_cases hc : c ∈ m <;> simp [ha, hb, hc, par]
/-- How often a cell is met by a list's faces. -/
def metC (l : List EF) (p : Pt) : Nat := (l.countP fun f => decide (f.2 = p)) + l.countP fun f => decide (add3 f.2 f.1 (-1) = p)
theorem met_even {n : Nat} {E : EF → Bool} (hE : InnE n E) (p : Pt) : metC (oddL E (n + 1)) p % 2 = 0 := by
  have hn := oddL_nodup E (n + 1)
  have hm : ∀ f, f ∈ oddL E (n + 1) ↔ (0 ≤ f.1 ∧ f.1 < 3) ∧ oddF E f = true := fun f => oddL_mem2 hE
  have hev := cell_even E p
  generalize oddL E (n + 1) = l at *
  have e1 : (l.countP fun f => decide (f.2 = p)) = l.countP fun f => decide (f ∈ [((0 : Int), p), (1, p), (2, p)]) := by
    refine List.countP_congr fun f hf => ?_
    have h3 := ((hm f).1 hf).1
    rw [decide_eq_true_eq, decide_eq_true_eq]
    obtain ⟨b, q⟩ := f
    dsimp only at h3 ⊢
    simp only [List.mem_cons, List.not_mem_nil, or_false, Prod.mk.injEq]
    constructor
    · rintro rfl; have hc : b = 0 ∨ b = 1 ∨ b = 2 := by omega
      rcases hc with rfl | rfl | rfl <;> simp
    · rintro (h | h | h) <;> exact h.2
  have e2 : (l.countP fun f => decide (add3 f.2 f.1 (-1) = p)) = l.countP fun f => decide (f ∈ [((0 : Int), add3 p 0 1), (1, add3 p 1 1), (2, add3 p 2 1)]) := by
    refine List.countP_congr fun f hf => ?_
    have h3 := ((hm f).1 hf).1
    rw [decide_eq_true_eq, decide_eq_true_eq]
    obtain ⟨b, q⟩ := f
    dsimp only at h3 ⊢
    have hc : b = 0 ∨ b = 1 ∨ b = 2 := by omega
    have key : ∀ b : Int, add3 q b (-1) = p ↔ q = add3 p b 1 := fun b => by
      constructor
      · intro h
        rw [← h]
        unfold add3
        rw [cmp3_set, set3_set, show cmp3 q b + -1 + 1 = cmp3 q b by omega, set3_cmp]
      · intro h
        rw [h]
        unfold add3
        rw [cmp3_set, set3_set, show cmp3 p b + 1 + -1 = cmp3 p b by omega, set3_cmp]
    rw [key]
    simp only [List.mem_cons, List.not_mem_nil, or_false, Prod.mk.injEq]
    constructor
    · rintro h; rcases hc with rfl | rfl | rfl <;> simp [h]
    · rintro (⟨rfl, h⟩ | ⟨rfl, h⟩ | ⟨rfl, h⟩) <;> exact h
  have hd : ∀ f : EF, 0 ≤ f.1 ∧ f.1 < 3 → decide (f ∈ l) = oddF E f := fun f h3 => by
    rw [Bool.eq_iff_iff, decide_eq_true_eq, hm]
    exact ⟨fun h => h.2, fun h => ⟨h3, h⟩⟩
  have hp : par (metC l p) = false := by
    unfold metC
    rw [e1, e2, par_add, par_three (by simp) hn, par_three (by simp) hn]
    rw [hd _ (by simp), hd _ (by simp), hd _ (by simp), hd _ (by simp), hd _ (by simp), hd _ (by simp)]
    unfold sixX at hev
    rw [← hev]
    generalize oddF E _ = a1
    generalize oddF E _ = a2
    generalize oddF E _ = a3
    generalize oddF E _ = a4
    generalize oddF E _ = a5
    generalize oddF E _ = a6
    cases a1 <;> cases a2 <;> cases a3 <;> cases a4 <;> cases a5 <;> cases a6 <;> rfl
  unfold par at hp
  have := of_decide_eq_false hp
  omega
/-! Two sets apart. -/
theorem sorted_eq {l m : List EF} (hl : l.Pairwise fun f g => ltF f g = true) (hm : m.Pairwise fun f g => ltF f g = true) (h : ∀ f, f ∈ l ↔ f ∈ m) : l = m := by
  have asym : ∀ f g : EF, ltF f g = true → ltF g f = true → False := fun f g h1 h2 => by
    unfold ltF at h1 h2
    simp only [Bool.or_eq_true, Bool.and_eq_true, decide_eq_true_eq] at h1 h2
    omega
  have nd : ∀ k : List EF, (k.Pairwise fun f g => ltF f g = true) → k.Nodup := fun k hk => hk.imp fun {f g} h e => by subst e; rw [ltF_irrefl] at h; cases h
  exact ((List.perm_ext_iff_of_nodup (nd l hl) (nd m hm)).2 h).eq_of_pairwise (fun a b _ _ h1 h2 => (asym a b h1 h2).elim) hl hm
theorem conn_sub {l1 l : List EF} (hs : ∀ f ∈ l1, f ∈ l) (hcut : ∀ f ∈ l1, ∀ g ∈ l, touch f g = true → g ∈ l1) {f g : EF} (hf : f ∈ l1) : Conn l f g ↔ Conn l1 f g := by
  constructor
  · intro h
    exact (h (fun x => x ∈ l1 ∧ Conn l1 f x) ⟨hf, Conn.refl _ _⟩ fun a b ha hb ht => ⟨hcut a ha.1 b hb ht, ha.2.step (hcut a ha.1 b hb ht) ht⟩).2
  · intro h
    exact h (fun x => Conn l f x) (Conn.refl _ _) fun a b ha hb ht => ha.step (hs b hb) ht
section
variable {l1 l2 l : List EF} (h1 : l1.Pairwise fun f g => ltF f g = true) (h : l.Pairwise fun f g => ltF f g = true) (hm : ∀ f, f ∈ l ↔ f ∈ l1 ∨ f ∈ l2) (ht : ∀ f ∈ l1, ∀ g ∈ l2, touch f g = false)
include h1 h hm ht
theorem comp_apart {f : EF} (hf : f ∈ l1) : compF l f = compF l1 f := by
  refine sorted_eq (h.filter _) (h1.filter _) fun g => ?_
  have hcut : ∀ f ∈ l1, ∀ g ∈ l, touch f g = true → g ∈ l1 := fun a ha b hb htt => by
    rcases (hm b).1 hb with hb | hb
    · exact hb
    · rw [ht a ha b hb] at htt; cases htt
  have hc := conn_sub (fun f hf => (hm f).2 (.inl hf)) hcut (g := g) hf
  rw [compF_mem, compF_mem]
  constructor
  · rintro ⟨_, h4⟩
    have h5 := hc.1 h4
    exact ⟨h5.mem hf, h5⟩
  · rintro ⟨h3, h4⟩
    exact ⟨(hm g).2 (.inl h3), hc.2 h4⟩
theorem heads_apart : l1.filter (headB l1) = (l.filter (headB l)).filter fun f => decide (f ∈ l1) := by
  refine sorted_eq (h1.filter _) ((h.filter _).filter _) fun f => ?_
  rw [List.mem_filter, List.mem_filter, List.mem_filter, decide_eq_true_eq]
  constructor
  · rintro ⟨a, b⟩
    refine ⟨⟨(hm f).2 (.inl a), ?_⟩, a⟩
    unfold headB at *
    rw [comp_apart h1 h hm ht a]
    exact b
  · rintro ⟨⟨a, b⟩, c⟩
    refine ⟨c, ?_⟩
    unfold headB at *
    rw [comp_apart h1 h hm ht c] at b
    exact b
end
/-- The components' heads, in order, and a mark which of the two sets each belongs to. -/
theorem parts_apart {l1 l2 l : List EF} (h1 : l1.Pairwise fun f g => ltF f g = true) (h2 : l2.Pairwise fun f g => ltF f g = true) (h : l.Pairwise fun f g => ltF f g = true) (hm : ∀ f, f ∈ l ↔ f ∈ l1 ∨ f ∈ l2) (hd : ∀ f ∈ l1, f ∉ l2) (ht : ∀ f ∈ l1, ∀ g ∈ l2, touch f g = false) :
    ∃ H : List EF, ∃ G : EF → List EF, partsF l = H.map G ∧ partsF l1 = (H.filter fun f => decide (f ∈ l1)).map G ∧ partsF l2 = (H.filter fun f => !decide (f ∈ l1)).map G ∧ ∀ f ∈ H, (G f).head? = some f := by
  have ht' : ∀ f ∈ l2, ∀ g ∈ l1, touch f g = false := fun f hf g hg => by
    cases hv : touch f g with
    | false => rfl
    | true => have := ht g hg f hf; rw [touch_symm hv] at this; cases this
  have hm' : ∀ f, f ∈ l ↔ f ∈ l2 ∨ f ∈ l1 := fun f => (hm f).trans Or.comm
  have hd' : ∀ f ∈ l2, f ∉ l1 := fun f hf hf1 => hd f hf1 hf
  refine ⟨l.filter (headB l), compF l, rfl, ?_, ?_, fun f hf => of_decide_eq_true (List.mem_filter.1 hf).2⟩
  · unfold partsF
    rw [heads_apart h1 h hm ht]
    refine List.map_congr_left fun f hf => (comp_apart h1 h hm ht ?_).symm
    exact of_decide_eq_true (List.mem_filter.1 hf).2
  · unfold partsF
    rw [heads_apart h2 h hm' ht']
    rw [List.filter_congr (q := fun f => !decide (f ∈ l1)) (l := l.filter (headB l)) fun f hf => ?_]
    · refine List.map_congr_left fun f hf => (comp_apart h2 h hm' ht' ?_).symm
      have h3 := List.mem_filter.1 hf
      have h4 := (List.mem_filter.1 h3.1).1
      rcases (hm f).1 h4 with h5 | h5
      · have := h3.2; rw [decide_eq_true h5] at this; cases this
      · exact h5
    · have h4 := (hm f).1 (List.mem_filter.1 hf).1
      rw [Bool.eq_iff_iff, decide_eq_true_eq, Bool.not_eq_true', decide_eq_false_iff_not]
      constructor
      · exact fun h5 => hd' f h5
      · intro h5; exact h4.resolve_left h5
end Go.Proofs.Ytdpgohpbannfnaa
/- Layer 7, plain: a field as a list; its edges, in the reference's order; what its edges seal to. No program. -/
namespace Go.Proofs.Ytdpgohpbannfnaa
/-- The number of a vertex. -/
def vtxN (s : Nat) (p : Pt) : Nat := (p.2.2.toNat * s + p.2.1.toNat) * s + p.1.toNat
def fldV (F : List Bool) (s : Nat) (p : Pt) : Bool := F.getD (vtxN s p) false
theorem vtxN_vtx (s k : Nat) : vtxN s (vtxS s k) = k := by
  have e1 := Nat.div_add_mod k s
  have e2 := Nat.div_add_mod (k / s) s
  unfold vtxN vtxS
  simp only [Int.toNat_natCast]
  rw [Nat.mul_comm (k / s / s) s, e2, Nat.mul_comm (k / s) s, e1]
theorem vtx_vtxN {s : Nat} {p : Pt} (h1 : 0 ≤ p.1 ∧ p.1 < s) (h2 : 0 ≤ p.2.1 ∧ p.2.1 < s) (h3 : 0 ≤ p.2.2 ∧ p.2.2 < s) : vtxS s (vtxN s p) = p ∧ vtxN s p < s * s * s := by
  obtain ⟨k, hk, hv⟩ := vtxS_of h1 h2 h3
  rw [← hv, vtxN_vtx]
  exact ⟨rfl, hk⟩
/-- The edges of one axis whose ends differ, among the first m vertices. -/
def edgA (F : List Bool) (s a m : Nat) : List EF :=
  ((List.range m).filter fun k => decide (cmp3 (vtxS s k) (a : Int) + 1 < (s : Int)) && (fldV F s (vtxS s k) != fldV F s (add3 (vtxS s k) (a : Int) 1))).map fun k => ((a : Int), vtxS s k)
def edgL (F : List Bool) (s : Nat) : List EF := edgA F s 0 (s * s * s) ++ (edgA F s 1 (s * s * s) ++ edgA F s 2 (s * s * s))
theorem edgA_mem {F : List Bool} {n a : Nat} (ha : a < 3) {e : EF} : e ∈ edgA F (n + 1) a ((n + 1) * (n + 1) * (n + 1)) ↔ e.1 = a ∧ grdE n e ∧ (fldV F (n + 1) e.2 != fldV F (n + 1) (add3 e.2 e.1 1)) = true := by
  have hc : (a : Int) = 0 ∨ (a : Int) = 1 ∨ (a : Int) = 2 := by omega
  unfold edgA
  rw [List.mem_map]
  constructor
  · rintro ⟨k, hk, rfl⟩
    obtain ⟨hk, hp⟩ := List.mem_filter.1 hk
    obtain ⟨v1, v2, v3⟩ := vtxS_lt (List.mem_range.1 hk)
    rw [Bool.and_eq_true, decide_eq_true_eq] at hp
    refine ⟨rfl, ?_, hp.2⟩
    have hp1 := hp.1
    generalize vtxS (n + 1) k = p at *
    unfold grdE
    dsimp only
    rcases hc with e | e | e <;> rw [e] at hp1 ⊢ <;> (unfold cmp3 at hp1; simp at hp1; omega)
  · rintro ⟨h1, h2, h3⟩
    obtain ⟨_, ⟨g1, g2, g3⟩, ⟨g4, g5, g6⟩, g7, g8, g9⟩ := h2
    obtain ⟨k, hk, hv⟩ := vtxS_of (s := n + 1) (p := e.2) (by omega) (by omega) (by omega)
    refine ⟨k, List.mem_filter.2 ⟨List.mem_range.2 hk, ?_⟩, ?_⟩
    · rw [hv, Bool.and_eq_true, decide_eq_true_eq, ← h1]
      refine ⟨?_, h3⟩
      rcases hc with e | e | e <;> rw [e] at h1 <;> rw [h1] <;> (unfold cmp3; simp; omega)
    · rw [hv, ← h1]
theorem edgL_mem {F : List Bool} {n : Nat} {e : EF} : e ∈ edgL F (n + 1) ↔ grdE n e ∧ (fldV F (n + 1) e.2 != fldV F (n + 1) (add3 e.2 e.1 1)) = true := by
  unfold edgL
  rw [List.mem_append, List.mem_append, edgA_mem (by omega), edgA_mem (by omega), edgA_mem (by omega)]
  constructor
  · rintro (h | h | h) <;> exact h.2
  · intro h
    have := h.1.1
    have hc : e.1 = 0 ∨ e.1 = 1 ∨ e.1 = 2 := by omega
    rcases hc with e | e | e
    · exact .inl ⟨e, h⟩
    · exact .inr (.inl ⟨e, h⟩)
    · exact .inr (.inr ⟨e, h⟩)
theorem edgA_sorted (F : List Bool) (s a m : Nat) : (edgA F s a m).Pairwise fun f g => ltF f g = true := by
  unfold edgA
  rw [List.pairwise_map]
  exact (List.pairwise_lt_range.filter _).imp fun h => ltF_vtx h
theorem edgA_ax {F : List Bool} {s a m : Nat} {e : EF} (h : e ∈ edgA F s a m) : e.1 = a := by
  obtain ⟨k, _, rfl⟩ := List.mem_map.1 h
  rfl
theorem edgL_nodup (F : List Bool) (s : Nat) : (edgL F s).Nodup := by
  have lt : ∀ f g : EF, f.1 < g.1 → ltF f g = true := fun f g h => by unfold ltF; rw [decide_eq_true h]; rfl
  have : (edgL F s).Pairwise fun f g => ltF f g = true := by
    unfold edgL
    refine List.pairwise_append.2 ⟨edgA_sorted _ _ _ _, List.pairwise_append.2 ⟨edgA_sorted _ _ _ _, edgA_sorted _ _ _ _, ?_⟩, ?_⟩
    · intro f hf g hg
      exact lt f g (by rw [edgA_ax hf, edgA_ax hg]; omega)
    · intro f hf g hg
      rcases List.mem_append.1 hg with hg | hg <;> exact lt f g (by rw [edgA_ax hf, edgA_ax hg]; omega)
  exact this.imp fun {f g} h e => by subst e; rw [ltF_irrefl] at h; cases h
/-- The set of a field's edges. -/
theorem giv_edg (F : List Bool) (n : Nat) : givE n (edgL F (n + 1)) = gradE n (fldV F (n + 1)) := by
  funext e
  unfold givE
  rw [togsE_nodup ((edgL_nodup F (n + 1)).filter _)]
  unfold gradE
  cases hi : innE n e with
  | false =>
    rw [Bool.false_and]
    exact decide_eq_false fun h => by have := (List.mem_filter.1 h).2; rw [hi] at this; cases this
  | true =>
    rw [Bool.true_and]
    cases hd : (fldV F (n + 1) e.2 != fldV F (n + 1) (add3 e.2 e.1 1)) with
    | true => exact decide_eq_true (List.mem_filter.2 ⟨edgL_mem.2 ⟨inn_grd hi, hd⟩, hi⟩)
    | false => exact decide_eq_false fun h => by have := (edgL_mem.1 (List.mem_filter.1 h).1).2; rw [hd] at this; cases this
/-- The border of a field is outside. -/
def outL (n : Nat) (F : List Bool) : Prop := F.length = (n + 1) * (n + 1) * (n + 1) ∧ ∀ k, F.getD k false = true → bdV n (k % (n + 1)) (k / (n + 1) % (n + 1)) (k / (n + 1) / (n + 1)) = false
theorem outL.outV {n : Nat} {F : List Bool} (h : outL n F) : outV n (fldV F (n + 1)) := by
  intro p h1 h2 h3 hb
  cases hv : fldV F (n + 1) p with
  | false => rfl
  | true =>
    exfalso
    have hk := h.2 _ hv
    obtain ⟨hvt, _⟩ := vtx_vtxN (s := n + 1) (p := p) (by omega) (by omega) (by omega)
    unfold bdV at hk
    have hk := of_decide_eq_false hk
    unfold vtxS at hvt
    have e1 := congrArg (fun q : Pt => q.1) hvt
    have e2 := congrArg (fun q : Pt => q.2.1) hvt
    have e3 := congrArg (fun q : Pt => q.2.2) hvt
    dsimp only at e1 e2 e3
    generalize vtxN (n + 1) p % (n + 1) = a at *
    generalize vtxN (n + 1) p / (n + 1) % (n + 1) = b at *
    generalize vtxN (n + 1) p / (n + 1) / (n + 1) = c at *
    omega
theorem insL7_congr {n : Nat} {E T : EF → Bool} (h : ∀ x ∈ allE (n + 1), E x = T x) : insL7 E n ((n + 1) * (n + 1) * (n + 1)) = insL7 T n ((n + 1) * (n + 1) * (n + 1)) := by
  unfold insL7
  refine List.map_congr_left fun k hk => ?_
  obtain ⟨v1, v2, v3⟩ := vtxS_lt (List.mem_range.1 hk)
  unfold vtxS at v1 v2 v3
  dsimp only at v1 v2 v3
  generalize k % (n + 1) = x at *
  generalize k / (n + 1) % (n + 1) = y at *
  generalize k / (n + 1) / (n + 1) = z at *
  congr 1
  unfold insV
  rw [xorN_congr (n := x) fun i hi => h (0, (i : Int), 0, 0) (allE_mem.2 (by dsimp only; omega)), xorN_congr (n := y) fun i hi => h (1, (x : Int), (i : Int), 0) (allE_mem.2 (by dsimp only; omega)), xorN_congr (n := z) fun i hi => h (2, (x : Int), (y : Int), (i : Int)) (allE_mem.2 (by dsimp only; omega))]
theorem ins_field {n : Nat} {F : List Bool} (h : outL n F) : insL7 (gradE n (fldV F (n + 1))) n ((n + 1) * (n + 1) * (n + 1)) = F := by
  unfold insL7
  refine List.ext_getElem? fun k => ?_
  rcases Nat.lt_or_ge k ((n + 1) * (n + 1) * (n + 1)) with hk | hk
  · rw [List.getElem?_map, List.getElem?_range hk, Option.map_some]
    have hv := vtxN_vtx (n + 1) k
    obtain ⟨v1, v2, v3⟩ := vtxS_lt hk
    have hi := grad_ins h.outV (x := k % (n + 1)) (y := k / (n + 1) % (n + 1)) (z := k / (n + 1) / (n + 1)) (by unfold vtxS at v1; dsimp only at v1; omega) (by unfold vtxS at v2; dsimp only at v2; omega) (by unfold vtxS at v3; dsimp only at v3; omega)
    rw [hi]
    have e : fldV F (n + 1) (((k % (n + 1) : Nat) : Int), ((k / (n + 1) % (n + 1) : Nat) : Int), ((k / (n + 1) / (n + 1) : Nat) : Int)) = F.getD k false := by
      show F.getD (vtxN (n + 1) (vtxS (n + 1) k)) false = _
      rw [hv]
    rw [e]
    have hkF : k < F.length := by rw [h.1]; exact hk
    rw [List.getElem?_eq_getElem hkF]
    have hg : F.getD k false = F[k] := by rw [List.getD_eq_getElem?_getD, List.getElem?_eq_getElem hkF]; rfl
    cases hb : F[k] with
    | false => rw [hg, hb]; rfl
    | true =>
      rw [hg, hb, h.2 k (by rw [hg, hb])]
      rfl
  · rw [List.getElem?_eq_none (by simpa using hk), List.getElem?_eq_none (by rw [h.1]; exact hk)]
/-- SealKeeps. -/
theorem keeps_odd {n : Nat} {F : List Bool} (h : outL n F) : oddP n (edgL F (n + 1)) = [] := by
  unfold oddP
  rw [giv_edg]
  exact even_none (grad_even h.outV)
theorem keeps_fld {n : Nat} {F : List Bool} (h : outL n F) : fldP n (edgL F (n + 1)) = F := by
  unfold fldP endE
  rw [keeps_odd h, partsF_nil, giv_edg]
  exact ins_field h
/-- SealMends. -/
theorem mend_giv {n : Nat} {F : List Bool} {e : EF} (he : innE n e = true) : givE n (edgL F (n + 1) ++ [e]) = togE (gradE n (fldV F (n + 1))) e := by
  rw [givE_snoc, if_pos he, giv_edg]
theorem mend_odd {n : Nat} {F : List Bool} (h : outL n F) {e : EF} (he : innE n e = true) : (oddP n (edgL F (n + 1) ++ [e])).length = 4 := by
  unfold oddP
  rw [mend_giv he]
  exact one_len h.outV he
theorem mend_pch {n : Nat} {F : List Bool} (h : outL n F) {e : EF} (he : innE n e = true) : ∃ p : Pch, pchsP n (edgL F (n + 1) ++ [e]) = [p] ∧ p.2.2 = 1 := by
  unfold pchsP oddP
  rw [mend_giv he, one_parts h.outV he]
  exact ⟨_, rfl, one_best h.outV he⟩
theorem mend_fld {n : Nat} {F : List Bool} (h : outL n F) {e : EF} (he : innE n e = true) : fldP n (edgL F (n + 1) ++ [e]) = F := by
  unfold fldP endE oddP
  rw [mend_giv he, insL7_congr (one_back h.outV he)]
  exact ins_field h
end Go.Proofs.Ytdpgohpbannfnaa
/- Layer 7, plain: sets of edges as tables (the reference's way); a field made of numbers. No program. -/
namespace Go.Proofs.Ytdpgohpbannfnaa
/-- The table of a set, for s vertices in each direction. -/
def tabE (s : Nat) (E : EF → Bool) : List Bool := (allE s).map E
/-- The number of an edge. -/
def edgN (s : Nat) (e : EF) : Nat := e.1.toNat * (s * s * s) + vtxN s e.2
theorem allE_length (s : Nat) : (allE s).length = 3 * (s * s * s) := by unfold allE; simp
theorem tabE_length (s : Nat) (E : EF → Bool) : (tabE s E).length = 3 * (s * s * s) := by unfold tabE; rw [List.length_map, allE_length]
theorem edg_edgN {n : Nat} {e : EF} (he : e ∈ allE (n + 1)) : edgS (n + 1) (edgN (n + 1) e) = e ∧ edgN (n + 1) e < 3 * ((n + 1) * (n + 1) * (n + 1)) := by
  obtain ⟨h1, h2, h3, h4⟩ := allE_mem.1 he
  obtain ⟨hv, hk⟩ := vtx_vtxN (s := n + 1) (p := e.2) (by omega) (by omega) (by omega)
  have hS : 0 < (n + 1) * (n + 1) * (n + 1) := Nat.mul_pos (Nat.mul_pos (by omega) (by omega)) (by omega)
  unfold edgN edgS
  rw [Nat.mul_comm e.1.toNat, Nat.mul_add_div hS, Nat.div_eq_of_lt hk, Nat.mul_add_mod, Nat.mod_eq_of_lt hk, hv]
  refine ⟨Prod.ext (by dsimp only; omega) rfl, ?_⟩
  have h5 : e.1.toNat ≤ 2 := by omega
  have := Nat.mul_le_mul_left ((n + 1) * (n + 1) * (n + 1)) h5
  omega
theorem tabE_get {n : Nat} (E : EF → Bool) {e : EF} (he : e ∈ allE (n + 1)) : (tabE (n + 1) E)[edgN (n + 1) e]? = some (E e) := by
  obtain ⟨h1, h2⟩ := edg_edgN he
  unfold tabE allE
  rw [List.map_map, List.getElem?_map, List.getElem?_range h2, Option.map_some, Function.comp_apply, h1]
theorem tabE_tog {n : Nat} (E : EF → Bool) {e : EF} (he : e ∈ allE (n + 1)) : (tabE (n + 1) E).set (edgN (n + 1) e) (!E e) = tabE (n + 1) (togE E e) := by
  obtain ⟨h1, h2⟩ := edg_edgN he
  refine List.ext_getElem? fun k => ?_
  rw [List.getElem?_set]
  rcases Nat.lt_or_ge k (3 * ((n + 1) * (n + 1) * (n + 1))) with hk | hk
  · have hE : ∀ T : EF → Bool, (tabE (n + 1) T)[k]? = some (T (edgS (n + 1) k)) := fun T => by
      unfold tabE allE
      rw [List.map_map, List.getElem?_map, List.getElem?_range hk, Option.map_some, Function.comp_apply]
    split
    · rename_i hkk
      rw [if_pos (by rw [tabE_length]; exact h2), hE, ← hkk, h1, togE_self]
    · rename_i hkk
      rw [hE, hE, togE_ne _ fun h => hkk (edgS_inj (h1.trans h.symm))]
  · have hno : ∀ T : EF → Bool, (tabE (n + 1) T)[k]? = none := fun T => List.getElem?_eq_none (by rw [tabE_length]; exact hk)
    rw [hno, hno, if_neg (by omega)]
theorem tabE_none (s : Nat) : tabE s noE = List.replicate (3 * (s * s * s)) false := by
  refine List.eq_replicate_iff.2 ⟨tabE_length _ _, fun b hb => ?_⟩
  obtain ⟨x, _, rfl⟩ := List.mem_map.1 hb
  rfl
theorem tabE_count (s : Nat) (E : EF → Bool) : (tabE s E).countP id = cntE s E := by
  unfold tabE cntE
  rw [List.countP_map]
  rfl
theorem tabE_take {s k : Nat} {E : EF → Bool} (hk : k < 3 * (s * s * s)) : (tabE s E)[k]? = some (E (edgS s k)) := by
  unfold tabE allE
  rw [List.map_map, List.getElem?_map, List.getElem?_range hk, Option.map_some, Function.comp_apply]
/-- Elementwise: the set that differs. -/
theorem tabE_xor {s k : Nat} {E T : EF → Bool} (hk : k < 3 * (s * s * s)) : (((tabE s (xorE E T)).take k ++ (tabE s E).drop k).set k (E (edgS s k) != T (edgS s k))) = (tabE s (xorE E T)).take (k + 1) ++ (tabE s E).drop (k + 1) := by
  have hl1 := tabE_length s (xorE E T)
  have hl2 := tabE_length s E
  refine List.ext_getElem? fun j => ?_
  rw [List.getElem?_set]
  have ht : ((tabE s (xorE E T)).take k).length = k := by rw [List.length_take]; omega
  have ht1 : ((tabE s (xorE E T)).take (k + 1)).length = k + 1 := by rw [List.length_take]; omega
  rcases Nat.lt_trichotomy j k with h | h | h
  · rw [if_neg (by omega), List.getElem?_append_left (by omega), List.getElem?_append_left (by omega), List.getElem?_take_of_lt (by omega), List.getElem?_take_of_lt (by omega)]
  · subst h
    rw [if_pos rfl, if_pos (by rw [List.length_append, ht, List.length_drop]; omega), List.getElem?_append_left (by omega), List.getElem?_take_of_lt (by omega), tabE_take hk]
    rfl
  · rw [if_neg (by omega), List.getElem?_append_right (by omega), List.getElem?_append_right (by omega), ht, ht1, List.getElem?_drop, List.getElem?_drop]
    congr 1
    omega
/-! A field made of numbers. -/
def mdN (m x : Nat) : Nat := ((x / m / m + 1) * (m + 2) + (x / m % m + 1)) * (m + 2) + (x % m + 1)
/-- The field of m + 1 cells in each direction, once these vertices are laid. -/
def madeL (m : Nat) (ks : List Nat) : List Bool := ks.foldl (fun F k => F.set (mdN m k) true) (List.replicate ((m + 2) * (m + 2) * (m + 2)) false)
theorem madeL_snoc (m : Nat) (ks : List Nat) (k : Nat) : madeL m (ks ++ [k]) = (madeL m ks).set (mdN m k) true := by unfold madeL; rw [List.foldl_append]; rfl
theorem mdN_parts {m x : Nat} (hm : 0 < m) (hx : x < m * m * m) : mdN m x < (m + 2) * (m + 2) * (m + 2) ∧ bdV (m + 1) (mdN m x % (m + 2)) (mdN m x / (m + 2) % (m + 2)) (mdN m x / (m + 2) / (m + 2)) = false := by
  have a1 := Nat.mod_lt x hm
  have a2 := Nat.mod_lt (x / m) hm
  have a3 : x / m / m < m := (Nat.div_lt_iff_lt_mul hm).2 ((Nat.div_lt_iff_lt_mul hm).2 hx)
  unfold mdN
  generalize x % m = a at *
  generalize x / m % m = b at *
  generalize x / m / m = c at *
  have hv := vtx_vtxN (s := m + 2) (p := (((a + 1 : Nat) : Int), ((b + 1 : Nat) : Int), ((c + 1 : Nat) : Int))) (by dsimp only; omega) (by dsimp only; omega) (by dsimp only; omega)
  unfold vtxN at hv
  simp only [Int.toNat_natCast] at hv
  refine ⟨hv.2, ?_⟩
  have h1 := hv.1
  unfold vtxS at h1
  simp only [Prod.mk.injEq] at h1
  obtain ⟨e1, e2, e3⟩ := h1
  unfold bdV
  refine decide_eq_false ?_
  generalize (((c + 1) * (m + 2) + (b + 1)) * (m + 2) + (a + 1)) % (m + 2) = x at *
  generalize (((c + 1) * (m + 2) + (b + 1)) * (m + 2) + (a + 1)) / (m + 2) % (m + 2) = y at *
  generalize (((c + 1) * (m + 2) + (b + 1)) * (m + 2) + (a + 1)) / (m + 2) / (m + 2) = z at *
  omega
theorem made_out {m : Nat} (hm : 0 < m) (ks : List Nat) (hk : ∀ k ∈ ks, k < m * m * m) : outL (m + 1) (madeL m ks) := by
  have key : ∀ (ks : List Nat) (F : List Bool), (∀ k ∈ ks, k < m * m * m) → outL (m + 1) F → outL (m + 1) (ks.foldl (fun F k => F.set (mdN m k) true) F) := by
    intro ks
    induction ks with
    | nil => intro F _ h; exact h
    | cons k ks ih =>
      intro F hk h
      refine ih _ (fun j hj => hk j (by simp [hj])) ⟨by rw [List.length_set]; exact h.1, fun j hj => ?_⟩
      by_cases hjk : j = mdN m k
      · subst hjk
        exact (mdN_parts hm (hk k (by simp))).2
      · refine h.2 j ?_
        rw [List.getD_eq_getElem?_getD, List.getElem?_set_ne (fun e => hjk e.symm)] at hj
        rw [List.getD_eq_getElem?_getD]
        exact hj
  refine key ks _ hk ⟨by simp, fun k h => ?_⟩
  rw [List.getD_eq_getElem?_getD] at h
  rcases Nat.lt_or_ge k ((m + 2) * (m + 2) * (m + 2)) with hk | hk
  · rw [List.getElem?_replicate, if_pos hk] at h; cases h
  · rw [List.getElem?_eq_none (by simpa using hk)] at h; cases h
end Go.Proofs.Ytdpgohpbannfnaa
/- Layer 7, plain: components, cell by cell, as the program finds them. No program. -/
namespace Go.Proofs.Ytdpgohpbannfnaa
/-- The numbers of the faces of a list that meet a cell. -/
def metL (l : List EF) (p : Pt) (k : Nat) : List Nat := (List.range k).flatMap fun i => match l[i]? with
  | some f => (cellsF f).flatMap fun q => if q = p then [i] else []
  | none => []
theorem metL_mem {l : List EF} {p : Pt} {k i : Nat} : i ∈ metL l p k ↔ i < k ∧ ∃ f, l[i]? = some f ∧ p ∈ cellsF f := by
  unfold metL
  rw [List.mem_flatMap]
  constructor
  · rintro ⟨j, hj, h⟩
    cases hf : l[j]? with
    | none => rw [hf] at h; cases h
    | some f =>
      rw [hf] at h
      obtain ⟨q, hq, h⟩ := List.mem_flatMap.1 h
      split at h
      · rename_i hqp
        rw [List.mem_singleton.1 h]
        exact ⟨List.mem_range.1 hj, f, hf, hqp ▸ hq⟩
      · cases h
  · rintro ⟨hi, f, hf, hp⟩
    refine ⟨i, List.mem_range.2 hi, ?_⟩
    rw [hf]
    exact List.mem_flatMap.2 ⟨p, hp, by rw [if_pos rfl]; exact List.mem_singleton.2 rfl⟩
/-- Which faces were seen: those of the components begun before i, and those of part. -/
def seenP (l : List EF) (i : Nat) (part : List Nat) (j : Nat) : Prop := (∃ a f g, a < i ∧ l[a]? = some f ∧ l[j]? = some g ∧ Conn l f g) ∨ j ∈ part
/-- Under way at the component of face i: what part holds is connected with it, and no other component's. -/
structure PartP (l : List EF) (i : Nat) (f : EF) (part : List Nat) : Prop where
  nd : part.Nodup
  conn : ∀ j ∈ part, ∃ g, l[j]? = some g ∧ Conn l f g
  has : i ∈ part
theorem PartP.start {l : List EF} {i : Nat} {f : EF} (hf : l[i]? = some f) : PartP l i f [i] :=
  ⟨by simp, fun j hj => by rw [List.mem_singleton.1 hj]; exact ⟨f, hf, Conn.refl _ _⟩, by simp⟩
theorem PartP.add {l : List EF} {i j a : Nat} {f g h : EF} {part : List Nat} (H : PartP l i f part) (hj : j ∉ part) (ha : a ∈ part) (hg : l[a]? = some g) (hh : l[j]? = some h) (ht : touch g h = true) : PartP l i f (part ++ [j]) := by
  obtain ⟨g', hg', hc⟩ := H.conn a ha
  rw [hg] at hg'
  cases hg'
  refine ⟨List.nodup_append.2 ⟨H.nd, by simp, fun x hx y hy => by rw [List.mem_singleton.1 hy]; rintro rfl; exact hj hx⟩, fun x hx => ?_, by simp [H.has]⟩
  rcases List.mem_append.1 hx with hx | hx
  · exact H.conn x hx
  · rw [List.mem_singleton.1 hx]
    exact ⟨h, hh, hc.step (List.mem_of_getElem? hh) ht⟩
/-- Where nothing more is met, part is the whole component. -/
theorem PartP.all {l : List EF} {i : Nat} {f : EF} {part : List Nat} (H : PartP l i f part) (hf : l[i]? = some f) (hcl : ∀ a ∈ part, ∀ g h j, l[a]? = some g → l[j]? = some h → touch g h = true → j ∈ part) : ∀ g, (∃ j ∈ part, l[j]? = some g) ↔ g ∈ compF l f := by
  intro g
  rw [compF_mem]
  constructor
  · rintro ⟨j, hj, hg⟩
    obtain ⟨g', hg', hc⟩ := H.conn j hj
    rw [hg] at hg'
    cases hg'
    exact ⟨List.mem_of_getElem? hg, hc⟩
  · rintro ⟨_, hc⟩
    exact hc (fun x => ∃ j ∈ part, l[j]? = some x) ⟨i, H.has, hf⟩ fun a b ⟨j, hj, ha⟩ hb ht => by
      obtain ⟨k, hk, hkb⟩ := List.getElem_of_mem hb
      have hb' : l[k]? = some b := by rw [List.getElem?_eq_getElem hk, hkb]
      exact ⟨k, hcl j hj a b k ha hb' ht, hb'⟩
/-- Face i begins a component just where no earlier one is connected with it. -/
theorem head_iff {l : List EF} (hn : l.Nodup) {i : Nat} {f : EF} (hf : l[i]? = some f) : headB l f = true ↔ ¬ ∃ a g, a < i ∧ l[a]? = some g ∧ Conn l g f := by
  have hfm := List.mem_of_getElem? hf
  have hi : i < l.length := (List.getElem?_eq_some_iff.1 hf).1
  have hsp : l = l.take i ++ f :: l.drop (i + 1) := by
    have h1 := List.take_append_drop i l
    have h2 : l.drop i = f :: l.drop (i + 1) := by
      rw [List.drop_eq_getElem_cons hi]
      congr 1
      rw [List.getElem?_eq_getElem hi] at hf
      exact Option.some.inj hf
    rw [h2] at h1
    exact h1.symm
  have hcf : compF l f = (l.take i).filter (connB l f) ++ f :: (l.drop (i + 1)).filter (connB l f) := by
    unfold compF
    conv => lhs; rw [hsp]
    rw [List.filter_append, List.filter_cons_of_pos (by rw [← hsp]; exact connB_iff.2 (Conn.refl _ _)), ← hsp]
  unfold headB
  rw [decide_eq_true_eq, hcf]
  constructor
  · rintro h ⟨a, g, ha, hg, hc⟩
    cases hfl : (l.take i).filter (connB l f) with
    | nil =>
      have hgt : g ∈ l.take i := by
        refine List.mem_of_getElem? (i := a) ?_
        rw [List.getElem?_take_of_lt ha]
        exact hg
      have := List.filter_eq_nil_iff.1 hfl g hgt
      exact this (connB_iff.2 (hc.symm (List.mem_of_getElem? hg)))
    | cons x xs =>
      rw [hfl] at h
      simp only [List.cons_append, List.head?_cons, Option.some.injEq] at h
      have hx : x ∈ (l.take i).filter (connB l f) := by rw [hfl]; simp
      have hx' := (List.mem_filter.1 hx).1
      rw [h] at hx'
      obtain ⟨k, hk, hkf⟩ := List.getElem_of_mem hx'
      rw [List.length_take] at hk
      rw [List.getElem_take] at hkf
      have hne := List.nodup_iff_pairwise_ne.1 hn
      have := (List.pairwise_iff_getElem.1 hne) k i (by omega) hi (by omega)
      rw [List.getElem?_eq_getElem hi] at hf
      exact this (hkf.trans (Option.some.inj hf).symm)
  · intro h
    have : (l.take i).filter (connB l f) = [] := by
      refine List.filter_eq_nil_iff.2 fun g hg hc => h ?_
      obtain ⟨k, hk, hkg⟩ := List.getElem_of_mem hg
      rw [List.length_take] at hk
      rw [List.getElem_take] at hkg
      have hkl : l[k]? = some g := by rw [List.getElem?_eq_getElem (by omega), hkg]
      exact ⟨k, g, by omega, hkl, (connB_iff.1 hc).symm hfm⟩
    rw [this]
    rfl
end Go.Proofs.Ytdpgohpbannfnaa
/- Layer 7, plain: what seal.components has seen, and what a component under way holds. No program. -/
namespace Go.Proofs.Ytdpgohpbannfnaa
def doneP (l : List EF) (i : Nat) (h : EF) : Prop := ∃ a g, a < i ∧ l[a]? = some g ∧ Conn l g h
noncomputable def doneB (l : List EF) (i : Nat) (h : EF) : Bool := @decide (doneP l i h) (Classical.propDecidable _)
theorem doneB_iff {l : List EF} {i : Nat} {h : EF} : doneB l i h = true ↔ doneP l i h := by unfold doneB; exact @decide_eq_true_iff _ (Classical.propDecidable _)
/-- Which faces were seen. -/
noncomputable def seeL (l : List EF) (i : Nat) (part : List Nat) : List Bool := (List.range l.length).map fun j => doneB l i (l[j]?.getD (0, 0, 0, 0)) || decide (j ∈ part)
theorem seeL_len (l : List EF) (i : Nat) (part : List Nat) : (seeL l i part).length = l.length := by simp [seeL]
theorem seeL_get {l : List EF} {i j : Nat} {part : List Nat} {g : EF} (hg : l[j]? = some g) : (seeL l i part)[j]? = some (doneB l i g || decide (j ∈ part)) := by
  have hj := (List.getElem?_eq_some_iff.1 hg).1
  unfold seeL
  rw [List.getElem?_map, List.getElem?_range hj, Option.map_some, hg]
  rfl
theorem seeL_zero (l : List EF) : seeL l 0 [] = List.replicate l.length false := by
  refine List.eq_replicate_iff.2 ⟨seeL_len _ _ _, fun b hb => ?_⟩
  obtain ⟨j, _, rfl⟩ := List.mem_map.1 hb
  have : doneB l 0 (l[j]?.getD (0, 0, 0, 0)) = false := by
    rw [Bool.eq_false_iff]
    intro h
    obtain ⟨a, _, ha, _⟩ := doneB_iff.1 h
    omega
  rw [this]
  rfl
theorem seeL_set {l : List EF} {i j : Nat} {part : List Nat} (hj : j < l.length) : (seeL l i part).set j true = seeL l i (part ++ [j]) := by
  refine List.ext_getElem? fun x => ?_
  rw [List.getElem?_set, seeL_len]
  rcases Nat.lt_or_ge x l.length with hx | hx
  · rw [seeL_get (List.getElem?_eq_getElem hx), seeL_get (List.getElem?_eq_getElem hx)]
    by_cases h : j = x
    · subst h
      rw [if_pos rfl, if_pos hj, decide_eq_true (show j ∈ part ++ [j] by simp)]
      simp
    · rw [if_neg h]
      congr 2
      refine decide_eq_decide.2 ?_
      rw [List.mem_append, List.mem_singleton]
      exact ⟨.inl, fun h' => h'.elim id fun e => absurd e.symm h⟩
  · rw [if_neg (by omega), List.getElem?_eq_none (by rw [seeL_len]; exact hx), List.getElem?_eq_none (by rw [seeL_len]; exact hx)]
theorem nodup_get {l : List EF} (hn : l.Nodup) {i j : Nat} {f : EF} (hi : l[i]? = some f) (hj : l[j]? = some f) : i = j := by
  obtain ⟨hi1, hi2⟩ := List.getElem?_eq_some_iff.1 hi
  obtain ⟨hj1, hj2⟩ := List.getElem?_eq_some_iff.1 hj
  have hp := List.pairwise_iff_getElem.1 (List.nodup_iff_pairwise_ne.1 hn)
  rcases Nat.lt_trichotomy i j with h | h | h
  · exact absurd (hi2.trans hj2.symm) (hp i j hi1 hj1 h)
  · exact h
  · exact absurd (hj2.trans hi2.symm) (hp j i hj1 hi1 h)
theorem done_mono {l : List EF} {i : Nat} {h : EF} (hd : doneP l i h) : doneP l (i + 1) h := by
  obtain ⟨a, g, ha, hg, hc⟩ := hd
  exact ⟨a, g, by omega, hg, hc⟩
theorem done_back {l : List EF} {i : Nat} {f h : EF} (_hh : h ∈ l) (hf : f ∈ l) (hc : Conn l f h) (hd : doneP l i h) : doneP l i f := by
  obtain ⟨a, g, ha, hg, hgh⟩ := hd
  exact ⟨a, g, ha, hg, hgh.trans (hc.symm hf)⟩
theorem done_succ {l : List EF} {i : Nat} {f h : EF} (hf : l[i]? = some f) : doneP l (i + 1) h ↔ doneP l i h ∨ Conn l f h := by
  constructor
  · rintro ⟨a, g, ha, hg, hc⟩
    by_cases h1 : a = i
    · subst h1
      rw [hf] at hg
      cases hg
      exact .inr hc
    · exact .inl ⟨a, g, by omega, hg, hc⟩
  · rintro (h1 | h1)
    · exact done_mono h1
    · exact ⟨i, f, by omega, hf, h1⟩
/-- Where face i was seen, nothing changes. -/
theorem seeL_skip {l : List EF} {i : Nat} {f : EF} (hf : l[i]? = some f) (hd : doneP l i f) : seeL l (i + 1) [] = seeL l i [] := by
  have hfm := List.mem_of_getElem? hf
  refine List.ext_getElem? fun x => ?_
  rcases Nat.lt_or_ge x l.length with hx | hx
  · have hg : l[x]? = some l[x] := List.getElem?_eq_getElem hx
    rw [seeL_get hg, seeL_get hg]
    congr 2
    rw [Bool.eq_iff_iff, doneB_iff, doneB_iff, done_succ hf]
    refine ⟨fun h => h.elim id fun hc => ?_, .inl⟩
    obtain ⟨a, g, ha, hg, hgf⟩ := hd
    exact ⟨a, g, ha, hg, hgf.trans hc⟩
  · rw [List.getElem?_eq_none (by rw [seeL_len]; exact hx), List.getElem?_eq_none (by rw [seeL_len]; exact hx)]
/-- Once the component of face i is whole. -/
theorem seeL_next {l : List EF} (hn : l.Nodup) {i : Nat} {f : EF} {part : List Nat} (hf : l[i]? = some f) (hp : ∀ g, (∃ j ∈ part, l[j]? = some g) ↔ g ∈ compF l f) : seeL l (i + 1) [] = seeL l i part := by
  refine List.ext_getElem? fun x => ?_
  rcases Nat.lt_or_ge x l.length with hx | hx
  · have hg : l[x]? = some l[x] := List.getElem?_eq_getElem hx
    rw [seeL_get hg, seeL_get hg]
    congr 1
    rw [Bool.eq_iff_iff, Bool.or_eq_true, Bool.or_eq_true, doneB_iff, doneB_iff, done_succ hf, decide_eq_true_eq, decide_eq_true_eq]
    have h1 : x ∈ part ↔ Conn l f l[x] := by
      constructor
      · intro h
        exact (compF_mem.1 ((hp l[x]).1 ⟨x, h, hg⟩)).2
      · intro h
        obtain ⟨j, hj, hjg⟩ := (hp l[x]).2 (compF_mem.2 ⟨List.getElem_mem hx, h⟩)
        have := nodup_get hn hjg hg
        exact this ▸ hj
    rw [h1]
    simp
  · rw [List.getElem?_eq_none (by rw [seeL_len]; exact hx), List.getElem?_eq_none (by rw [seeL_len]; exact hx)]
/-- The components begun before face i. -/
noncomputable def outP (l : List EF) (i : Nat) : List (List EF) := ((l.take i).filter (headB l)).map (compF l)
theorem outP_zero (l : List EF) : outP l 0 = [] := rfl
theorem outP_end (l : List EF) : outP l l.length = partsF l := by unfold outP partsF; rw [List.take_length]
theorem outP_skip {l : List EF} (hn : l.Nodup) {i : Nat} {f : EF} (hf : l[i]? = some f) (hd : doneP l i f) : outP l (i + 1) = outP l i := by
  unfold outP
  rw [List.take_add_one, hf, Option.toList_some, List.filter_append, List.map_append]
  have : headB l f = false := by
    rw [Bool.eq_false_iff]
    exact fun h => (head_iff hn hf).1 h hd
  rw [List.filter_cons_of_neg (by rw [this]; simp)]
  simp
theorem outP_next {l : List EF} (hn : l.Nodup) {i : Nat} {f : EF} (hf : l[i]? = some f) (hd : ¬ doneP l i f) : outP l (i + 1) = outP l i ++ [compF l f] := by
  unfold outP
  rw [List.take_add_one, hf, Option.toList_some, List.filter_append, List.map_append]
  have : headB l f = true := (head_iff hn hf).2 hd
  rw [List.filter_cons_of_pos (by rw [this])]
  rfl
theorem outP_len (l : List EF) (i : Nat) : (outP l i).length ≤ i := by
  unfold outP
  rw [List.length_map]
  refine Nat.le_trans (List.length_filter_le _ _) ?_
  rw [List.length_take]
  exact Nat.min_le_left _ _
/-! Under way. -/
/-- All faces of the first k of part, and of the first b cells of the k-th, and of the first t that meet the next cell, are in part. -/
def closP (l : List EF) (part : List Nat) (k b : Nat) (met : List Nat) : Prop :=
  (∀ a ∈ part.take k, ∀ g h j, l[a]? = some g → l[j]? = some h → touch g h = true → j ∈ part) ∧
  (∀ a g p h j, part[k]? = some a → l[a]? = some g → p ∈ (cellsF g).take b → l[j]? = some h → p ∈ cellsF h → j ∈ part) ∧ ∀ j ∈ met, j ∈ part
theorem closP.start (l : List EF) (i : Nat) : closP l [i] 0 0 [] := ⟨fun a ha => by simp at ha, fun a g p h j _ _ hp => by simp at hp, fun j hj => by simp at hj⟩
theorem closP.grow {l : List EF} {part : List Nat} {k b : Nat} {met : List Nat} (H : closP l part k b met) (hk : k < part.length) (x : Nat) : closP l (part ++ [x]) k b met := by
  refine ⟨fun a ha g h j hg hh ht => ?_, fun a g p h j ha hg hp hh hc => ?_, fun j hj => List.mem_append_left _ (H.2.2 j hj)⟩
  · rw [List.take_append_of_le_length (by omega)] at ha
    exact List.mem_append_left _ (H.1 a ha g h j hg hh ht)
  · rw [List.getElem?_append_left hk] at ha
    exact List.mem_append_left _ (H.2.1 a g p h j ha hg hp hh hc)
theorem closP.met {l : List EF} {part : List Nat} {k b : Nat} {met : List Nat} (H : closP l part k b met) {x : Nat} (hx : x ∈ part) : closP l part k b (met ++ [x]) :=
  ⟨H.1, H.2.1, fun j hj => (List.mem_append.1 hj).elim (H.2.2 j) fun h => by rw [List.mem_singleton.1 h]; exact hx⟩
theorem closP.cell {l : List EF} {part : List Nat} {k b a : Nat} {g : EF} {p : Pt} (H : closP l part k b (metL l p l.length)) (ha : part[k]? = some a) (hg : l[a]? = some g) (hp : (cellsF g)[b]? = some p) : closP l part k (b + 1) [] := by
  refine ⟨H.1, fun a' g' p' h j ha' hg' hp' hh hc => ?_, fun j hj => by simp at hj⟩
  rw [ha] at ha'
  cases ha'
  rw [hg] at hg'
  cases hg'
  rw [List.take_add_one, hp, Option.toList_some] at hp'
  rcases List.mem_append.1 hp' with h1 | h1
  · exact H.2.1 a g p' h j ha hg h1 hh hc
  · rw [List.mem_singleton.1 h1] at hc
    exact H.2.2 j (metL_mem.2 ⟨(List.getElem?_eq_some_iff.1 hh).1, h, hh, hc⟩)
theorem closP.next {l : List EF} {part : List Nat} {k a : Nat} {g : EF} (H : closP l part k 2 []) (ha : part[k]? = some a) (hg : l[a]? = some g) : closP l part (k + 1) 0 [] := by
  refine ⟨fun a' ha' g' h j hg' hh ht => ?_, fun a g p h j _ _ hp => by simp at hp, H.2.2⟩
  rw [List.take_add_one, ha, Option.toList_some] at ha'
  rcases List.mem_append.1 ha' with h1 | h1
  · exact H.1 a' h1 g' h j hg' hh ht
  · rw [List.mem_singleton.1 h1] at hg'
    rw [hg] at hg'
    cases hg'
    unfold touch at ht
    obtain ⟨p, hp, hq⟩ := List.any_eq_true.1 ht
    obtain ⟨q, hqm, he⟩ := List.any_eq_true.1 hq
    have he := of_decide_eq_true he
    subst he
    exact H.2.1 a g p h j ha hg hp hh hqm
theorem PartP.lt {l : List EF} {i : Nat} {f : EF} {part : List Nat} (H : PartP l i f part) : ∀ j ∈ part, j < l.length := fun j hj => by
  obtain ⟨g, hg, _⟩ := H.conn j hj
  exact (List.getElem?_eq_some_iff.1 hg).1
theorem nodup_lt_len {n : Nat} {xs : List Nat} (hn : xs.Nodup) (h : ∀ x ∈ xs, x < n) : xs.length ≤ n := by
  have := hn.length_le_of_subset (l₂ := List.range n) fun x hx => List.mem_range.2 (h x hx)
  rwa [List.length_range] at this
/-- The faces of a whole component. -/
def facL (l : List EF) (part : List Nat) : List EF := part.map fun k => l[k]?.getD (0, 0, 0, 0)
theorem facL_snoc (l : List EF) (part : List Nat) {k : Nat} {g : EF} (hg : l[k]? = some g) : facL l (part ++ [k]) = facL l part ++ [g] := by
  unfold facL
  rw [List.map_append, List.map_singleton, hg]
  rfl
theorem facL_len (l : List EF) (part : List Nat) : (facL l part).length = part.length := by simp [facL]
theorem facL_mem {l : List EF} {i : Nat} {f : EF} {part : List Nat} (H : PartP l i f part) {g : EF} : g ∈ facL l part ↔ ∃ j ∈ part, l[j]? = some g := by
  unfold facL
  rw [List.mem_map]
  constructor
  · rintro ⟨j, hj, he⟩
    obtain ⟨g', hg', _⟩ := H.conn j hj
    rw [hg'] at he
    exact ⟨j, hj, by rw [hg', ← he]; rfl⟩
  · rintro ⟨j, hj, he⟩
    exact ⟨j, hj, by rw [he]; rfl⟩
theorem facL_nodup {l : List EF} (hn : l.Nodup) {i : Nat} {f : EF} {part : List Nat} (H : PartP l i f part) : (facL l part).Nodup := by
  unfold facL
  rw [List.nodup_iff_pairwise_ne, List.pairwise_map]
  refine (List.nodup_iff_pairwise_ne.1 H.nd).imp_of_mem fun {a b} ha hb hab he => ?_
  obtain ⟨ga, hga, _⟩ := H.conn a ha
  obtain ⟨gb, hgb, _⟩ := H.conn b hb
  rw [hga, hgb] at he
  have he : ga = gb := he
  subst he
  exact hab (nodup_get hn hga hgb)
end Go.Proofs.Ytdpgohpbannfnaa
/- law07's examples, plain: the star of a vertex, without one edge, one edge alone. No program. -/
namespace Go.Proofs.Ytdpgohpbannfnaa
set_option maxRecDepth 100000
theorem giv_set {n : Int} {l m : List EF} (hl : l.Nodup) (hm : m.Nodup) (h : ∀ e, e ∈ l ↔ e ∈ m) : givE n l = givE n m := by
  funext e
  unfold givE
  rw [togsE_nodup (hl.filter _), togsE_nodup (hm.filter _)]
  simp only [List.mem_filter, h]
def star7 : List EF := [(0, (2, 2, 2)), (0, (1, 2, 2)), (1, (2, 2, 2)), (1, (2, 1, 2)), (2, (2, 2, 2)), (2, (2, 2, 1))]
def tail7 : List EF := [(0, (1, 2, 2)), (1, (2, 2, 2)), (1, (2, 1, 2)), (2, (2, 2, 2)), (2, (2, 2, 1))]
def oneF (b : Bool) : List Bool := (List.range 125).map fun k => b && decide (k = 62)
theorem oneF_edg : edgL (oneF true) 5 = [(0, (1, 2, 2)), (0, (2, 2, 2)), (1, (2, 1, 2)), (1, (2, 2, 2)), (2, (2, 2, 1)), (2, (2, 2, 2))] := by decide +kernel
theorem oneF_edg0 : edgL (oneF false) 5 = [] := by decide +kernel
theorem oneF_out (b : Bool) : outL 4 (oneF b) := by
  refine ⟨by unfold oneF; simp, fun k hk => ?_⟩
  have h62 : k = 62 := by
    unfold oneF at hk
    rw [List.getD_eq_getElem?_getD, List.getElem?_map] at hk
    by_cases hlt : k < 125
    · rw [List.getElem?_range hlt] at hk
      simp at hk
      exact hk.2
    · rw [List.getElem?_eq_none (by simp; omega)] at hk
      simp at hk
  subst h62
  decide +kernel
theorem star_same : givE 4 (edgL (oneF true) 5) = givE 4 star7 := by
  rw [oneF_edg]
  refine giv_set (by decide +kernel) (by decide +kernel) fun e => ?_
  unfold star7
  simp only [List.mem_cons, List.not_mem_nil, or_false]
  constructor <;> intro h <;> (rcases h with h | h | h | h | h | h <;> simp [h])
theorem tail_same : givE 4 (edgL (oneF true) 5 ++ [(0, (2, 2, 2))]) = givE 4 tail7 := by
  rw [givE_snoc, if_pos (by decide +kernel), star_same]
  funext e
  have h1 : star7.filter (innE 4) = star7 := by decide +kernel
  have h2 : tail7.filter (innE 4) = tail7 := by decide +kernel
  have e2 : givE 4 tail7 e = decide (e ∈ tail7) := by unfold givE; rw [h2]; exact togsE_nodup (by decide +kernel) e
  have e1 : ∀ x, givE 4 star7 x = decide (x ∈ star7) := fun x => by unfold givE; rw [h1]; exact togsE_nodup (by decide +kernel) x
  rw [e2]
  unfold togE
  by_cases he : e = (0, (2, 2, 2))
  · rw [if_pos he, he, e1]
    decide +kernel
  · rw [if_neg he, e1]
    have : star7 = (0, (2, 2, 2)) :: tail7 := rfl
    rw [this]
    simp [he]
theorem star_odd : oddP 4 star7 = [] := by
  have := keeps_odd (oneF_out true)
  unfold oddP at this ⊢
  rwa [show givE (4 : Nat) (edgL (oneF true) (4 + 1)) = givE (4 : Nat) star7 from star_same] at this
theorem star_pch : pchsP 4 star7 = [] := by unfold pchsP; rw [star_odd]; rfl
theorem star_fld : fldP 4 star7 = oneF true := by
  have := keeps_fld (oneF_out true)
  unfold fldP endE oddP at this ⊢
  rwa [show givE (4 : Nat) (edgL (oneF true) (4 + 1)) = givE (4 : Nat) star7 from star_same] at this
theorem tail_inn : innE (4 : Nat) (0, (2, 2, 2)) = true := by decide +kernel
theorem tail_oddL : oddP 4 tail7 = [(1, (2, 2, 1)), (1, (2, 2, 2)), (2, (2, 1, 2)), (2, (2, 2, 2))] := by decide +kernel
theorem tail_odd : (oddP 4 tail7).length = 4 := by rw [tail_oddL]; rfl
theorem tail_fld : fldP 4 tail7 = oneF true := by
  have := mend_fld (oneF_out true) tail_inn
  unfold fldP endE oddP at this ⊢
  rwa [show givE (4 : Nat) (edgL (oneF true) (4 + 1) ++ [(0, (2, 2, 2))]) = givE (4 : Nat) tail7 from tail_same] at this
theorem tail_pch : pchsP 4 tail7 = [((1, (2, 2, 1)), 2, 1)] := by
  have h := one_parts (oneF_out true).outV tail_inn
  have h2 := mend_giv (F := oneF true) tail_inn
  rw [← h2, show givE (4 : Nat) (edgL (oneF true) (4 + 1) ++ [(0, (2, 2, 2))]) = givE (4 : Nat) tail7 from tail_same] at h
  have h3 : partsF (oddP 4 tail7) = [oddP 4 tail7] := h
  unfold pchsP
  rw [h3, tail_oddL]
  show [pchP 4 _] = _
  decide +kernel
theorem lone_inn : innE (4 : Nat) (2, (1, 1, 0)) = true := by decide +kernel
theorem lone_fld : fldP 4 [(2, (1, 1, 0))] = oneF false := by
  have := mend_fld (oneF_out false) lone_inn
  rwa [show edgL (oneF false) (4 + 1) = [] from oneF_edg0] at this
theorem lone_pch : ∃ p : Pch, pchsP 4 [(2, (1, 1, 0))] = [p] ∧ p.2.2 = 1 := by
  have := mend_pch (oneF_out false) lone_inn
  rwa [show edgL (oneF false) (4 + 1) = [] from oneF_edg0] at this
end Go.Proofs.Ytdpgohpbannfnaa
/- Laws of layer 7, plain: the border, cells counted, two sets apart merged. No program. -/
namespace Go.Proofs.Ytdpgohpbannfnaa
set_option maxRecDepth 100000
theorem fldP_len (n : Nat) (l : List EF) : (fldP n l).length = (n + 1) * (n + 1) * (n + 1) := by unfold fldP insL7; simp
theorem fldP_in {n : Nat} {l : List EF} {k : Nat} (h : (fldP n l)[k]? = some true) : bdV n (k % (n + 1)) (k / (n + 1) % (n + 1)) (k / (n + 1) / (n + 1)) = false := by
  unfold fldP insL7 at h
  rw [List.getElem?_map] at h
  by_cases hk : k < (n + 1) * (n + 1) * (n + 1)
  · rw [List.getElem?_range hk] at h
    simp only [Option.map_some, Option.some.injEq, Bool.and_eq_true, Bool.not_eq_true'] at h
    exact h.2
  · rw [List.getElem?_eq_none (by simp; omega)] at h
    cases h
theorem same_filter {n : Int} {l m : List EF} (h : l.filter (innE n) = m.filter (innE n)) : givE n l = givE n m := by unfold givE; rw [h]
theorem same_oddP {n : Nat} {l m : List EF} (h : givE n l = givE n m) : oddP n l = oddP n m := by unfold oddP; rw [h]
theorem same_pchs {n : Nat} {l m : List EF} (h : givE n l = givE n m) : pchsP n l = pchsP n m := by unfold pchsP; rw [same_oddP h]
theorem same_fldP {n : Nat} {l m : List EF} (h : givE n l = givE n m) : fldP n l = fldP n m := by unfold fldP endE; rw [same_oddP h, h]
/-! Cells counted. -/
theorem map_bump {N i : Nat} (g : Nat → Nat) : ((List.range N).map g).set i (g i + 1) = (List.range N).map fun k => g k + if k = i then 1 else 0 := by
  refine List.ext_getElem? fun j => ?_
  rw [List.getElem?_set]
  simp only [List.getElem?_map, List.length_map, List.length_range]
  by_cases hij : i = j
  · subst hij
    rw [if_pos rfl]
    by_cases hi : i < N
    · rw [if_pos hi, List.getElem?_range hi]; simp
    · rw [if_neg hi, List.getElem?_eq_none (by simp; omega)]; rfl
  · rw [if_neg hij]
    by_cases hj : j < N
    · rw [List.getElem?_range hj]
      simp
      exact fun e => hij e.symm
    · rw [List.getElem?_eq_none (by simp; omega)]; rfl
def cntL (l : List EF) (s : Nat) : List Nat := (List.range (s * s * s)).map fun k => metC l (vtxS s k)
def cntH (l : List EF) (f : EF) (s : Nat) : List Nat := (List.range (s * s * s)).map fun k => metC l (vtxS s k) + if f.2 = vtxS s k then 1 else 0
theorem metC_snoc (l : List EF) (f : EF) (p : Pt) : metC (l ++ [f]) p = metC l p + (if f.2 = p then 1 else 0) + if add3 f.2 f.1 (-1) = p then 1 else 0 := by
  unfold metC
  rw [List.countP_append, List.countP_append, List.countP_singleton, List.countP_singleton]
  simp only [decide_eq_true_eq]
  omega
theorem metC_le (l : List EF) (p : Pt) : metC l p ≤ 2 * l.length := by
  unfold metC
  have h1 := List.countP_le_length (p := fun f : EF => decide (f.2 = p)) (l := l)
  have h2 := List.countP_le_length (p := fun f : EF => decide (add3 f.2 f.1 (-1) = p)) (l := l)
  omega
def rngP (s : Nat) (p : Pt) : Prop := (0 ≤ p.1 ∧ p.1 < s) ∧ (0 ≤ p.2.1 ∧ p.2.1 < s) ∧ (0 ≤ p.2.2 ∧ p.2.2 < s)
theorem vtx_is {s k : Nat} {p : Pt} (hp : rngP s p) : p = vtxS s k ↔ k = vtxN s p := by
  constructor
  · rintro h; rw [h, vtxN_vtx]
  · rintro rfl; exact (vtx_vtxN hp.1 hp.2.1 hp.2.2).1.symm
theorem cntL_get {l : List EF} {s : Nat} {p : Pt} (hp : rngP s p) : (cntL l s)[vtxN s p]? = some (metC l p) := by
  have h := vtx_vtxN hp.1 hp.2.1 hp.2.2
  unfold cntL
  rw [List.getElem?_map, List.getElem?_range h.2, Option.map_some, h.1]
theorem cntH_get {l : List EF} {f : EF} {s : Nat} {p : Pt} (hp : rngP s p) : (cntH l f s)[vtxN s p]? = some (metC l p + if f.2 = p then 1 else 0) := by
  have h := vtx_vtxN hp.1 hp.2.1 hp.2.2
  unfold cntH
  rw [List.getElem?_map, List.getElem?_range h.2, Option.map_some, h.1]
theorem cnt_one {l : List EF} {f : EF} {s : Nat} (hp : rngP s f.2) : (cntL l s).set (vtxN s f.2) (metC l f.2 + 1) = cntH l f s := by
  have h := vtx_vtxN hp.1 hp.2.1 hp.2.2
  have := map_bump (N := s * s * s) (i := vtxN s f.2) fun k => metC l (vtxS s k)
  rw [h.1] at this
  unfold cntL cntH
  rw [this]
  refine List.map_congr_left fun k _ => ?_
  simp only [vtx_is hp]
theorem cnt_two {l : List EF} {f : EF} {s : Nat} (hp : rngP s (add3 f.2 f.1 (-1))) : (cntH l f s).set (vtxN s (add3 f.2 f.1 (-1))) ((metC l (add3 f.2 f.1 (-1)) + if f.2 = add3 f.2 f.1 (-1) then 1 else 0) + 1) = cntL (l ++ [f]) s := by
  have h := vtx_vtxN hp.1 hp.2.1 hp.2.2
  have := map_bump (N := s * s * s) (i := vtxN s (add3 f.2 f.1 (-1))) fun k => metC l (vtxS s k) + if f.2 = vtxS s k then 1 else 0
  rw [h.1] at this
  unfold cntL cntH
  rw [this]
  refine List.map_congr_left fun k _ => ?_
  rw [metC_snoc]
  simp only [vtx_is hp]
theorem cntL_nil (s : Nat) : cntL [] s = List.replicate (s * s * s) 0 := by
  unfold cntL
  rw [List.eq_replicate_iff]
  exact ⟨by simp, fun b hb => by obtain ⟨k, _, rfl⟩ := List.mem_map.1 hb; rfl⟩
theorem cntL_len (l : List EF) (s : Nat) : (cntL l s).length = s * s * s := by unfold cntL; simp
theorem cntL_even {n : Nat} {l : List EF} {k c : Nat} (h : (cntL (oddP n l) (n + 1))[k]? = some c) : c % 2 = 0 := by
  unfold cntL at h
  rw [List.getElem?_map] at h
  cases hk : (List.range ((n + 1) * (n + 1) * (n + 1)))[k]? with
  | none => rw [hk] at h; cases h
  | some j =>
    rw [hk] at h
    simp only [Option.map_some, Option.some.injEq] at h
    rw [← h]
    exact met_even (giv_inn n l) _
/-- What is known of an odd face. -/
theorem odd_known {n : Nat} {l : List EF} {f : EF} (h : f ∈ oddP n l) : (f.1 = 0 ∨ f.1 = 1 ∨ f.1 = 2) ∧ rngP (n + 1) f.2 ∧ rngP (n + 1) (add3 f.2 f.1 (-1)) ∧ 0 < cmp3 f.2 f.1 ∧ cmp3 f.2 f.1 < n := by
  have h1 := odd_inside (giv_inn n l) h
  have h2 := (oddL_mem.1 h).1
  obtain ⟨t, x, y, z⟩ := f
  unfold grdF at h2
  dsimp only at h1 h2
  unfold rngP add3 set3
  have hc : t = 0 ∨ t = 1 ∨ t = 2 := by omega
  refine ⟨hc, ?_⟩
  rcases hc with rfl | rfl | rfl <;> simp [cmp3] at h1 ⊢ <;> omega
/-! Two sets apart. -/
theorem givE_append (n : Int) (x y : List EF) : givE n (x ++ y) = xorE (givE n x) (givE n y) := by
  unfold givE
  rw [List.filter_append, togsE_append, togsE_xor (togsE noE _)]
def lowE (c : Int) (e : EF) : Prop := (0 ≤ e.1 ∧ e.1 < 3) ∧ (c ≤ e.2.1 ∧ e.2.1 ≤ c + 1) ∧ (c ≤ e.2.2.1 ∧ e.2.2.1 ≤ c + 1) ∧ (c ≤ e.2.2.2 ∧ e.2.2.2 ≤ c + 1)
def boxP (c : Int) (p : Pt) : Prop := (c - 1 ≤ p.1 ∧ p.1 ≤ c + 1) ∧ (c - 1 ≤ p.2.1 ∧ p.2.1 ≤ c + 1) ∧ (c - 1 ≤ p.2.2 ∧ p.2.2 ≤ c + 1)
theorem face_box {c : Int} {e f : EF} (he : lowE c e) (hf : f ∈ facesE e) : boxP c f.2 ∧ boxP c (add3 f.2 f.1 (-1)) := by
  obtain ⟨t, x, y, z⟩ := e
  unfold lowE at he
  dsimp only at he
  have hc : t = 0 ∨ t = 1 ∨ t = 2 := by omega
  unfold facesE at hf
  simp only [List.mem_cons, List.not_mem_nil, or_false] at hf
  unfold boxP
  rcases hc with rfl | rfl | rfl <;> rcases hf with rfl | rfl | rfl | rfl <;> simp [add3, set3, cmp3] <;> omega
theorem odd_box {c : Int} {n : Nat} {l : List EF} (hl : ∀ e ∈ l, lowE c e) {f : EF} (hf : f ∈ oddP n l) : boxP c f.2 ∧ boxP c (add3 f.2 f.1 (-1)) := by
  obtain ⟨h1, h2⟩ := (oddL_mem2 (giv_inn n l)).1 hf
  have h3 := par_face (L := l.filter (innE n)) (fun e he => (hl e (List.mem_filter.1 he).1).1) h1
  obtain ⟨e, he, hfe⟩ := List.mem_flatMap.1 (togsE_mem (h3.trans h2))
  exact face_box (hl e (List.mem_filter.1 he).1) hfe
theorem seal_apart {n : Nat} {x y : List EF} (hx : ∀ e ∈ x, lowE 1 e) (hy : ∀ e ∈ y, lowE 5 e) :
    ∃ B : List (Bool × Pch), pchsP n (x ++ y) = B.map Prod.snd ∧ pchsP n x = (B.filter fun b => b.1).map Prod.snd ∧ pchsP n y = (B.filter fun b => !b.1).map Prod.snd ∧ ∀ b ∈ B, ∀ c ∈ B, b.1 = true → c.1 = false → b.2.1 ≠ c.2.1 := by
  have hm : ∀ f, f ∈ oddP n (x ++ y) ↔ f ∈ oddP n x ∨ f ∈ oddP n y := fun f => by
    unfold oddP
    rw [oddL_mem2 (giv_inn n (x ++ y)), oddL_mem2 (giv_inn n x), oddL_mem2 (giv_inn n y), givE_append, oddF_xor]
    by_cases h3 : 0 ≤ f.1 ∧ f.1 < 3
    · have hno : ¬ (oddF (givE n x) f = true ∧ oddF (givE n y) f = true) := fun ⟨a, b⟩ => by
        have h1 := (odd_box (n := n) hx (f := f) ((oddL_mem2 (giv_inn n x)).2 ⟨h3, a⟩)).1
        have h2 := (odd_box (n := n) hy (f := f) ((oddL_mem2 (giv_inn n y)).2 ⟨h3, b⟩)).1
        unfold boxP at h1 h2
        omega
      cases ha : oddF (givE n x) f <;> cases hb : oddF (givE n y) f <;> simp_all
    · simp [h3]
  have hd : ∀ f ∈ oddP n x, f ∉ oddP n y := fun f h1 h2 => by
    have h1 := (odd_box hx h1).1
    have h2 := (odd_box hy h2).1
    unfold boxP at h1 h2
    omega
  have ht : ∀ f ∈ oddP n x, ∀ g ∈ oddP n y, touch f g = false := fun f hf g hg => by
    have h1 := odd_box hx hf
    have h2 := odd_box hy hg
    cases hv : touch f g with
    | false => rfl
    | true =>
      unfold touch cellsF at hv
      simp only [List.any_cons, List.any_nil, Bool.or_false, Bool.or_eq_true, decide_eq_true_eq] at hv
      have h3 := h1.1
      have h4 := h1.2
      have h5 := h2.1
      have h6 := h2.2
      rcases hv with (h | h) | (h | h)
      · rw [h] at h3; unfold boxP at h3 h5; omega
      · rw [h] at h3; unfold boxP at h3 h6; omega
      · rw [h] at h4; unfold boxP at h4 h5; omega
      · rw [h] at h4; unfold boxP at h4 h6; omega
  obtain ⟨H, G, e0, e1, e2, e3⟩ := parts_apart (oddL_sorted (givE n x) (n + 1)) (oddL_sorted (givE n y) (n + 1)) (oddL_sorted (givE n (x ++ y)) (n + 1)) hm hd ht
  refine ⟨H.map fun f => (decide (f ∈ oddP n x), pchP n (G f)), ?_, ?_, ?_, ?_⟩
  · unfold pchsP
    rw [show partsF (oddP n (x ++ y)) = H.map G from e0, List.map_map, List.map_map]
    rfl
  · unfold pchsP
    rw [show partsF (oddP n x) = _ from e1, List.map_map, List.filter_map, List.map_map]
    rfl
  · unfold pchsP
    rw [show partsF (oddP n y) = _ from e2, List.map_map, List.filter_map, List.map_map]
    rfl
  · intro b hb c hc h1 h2 he
    obtain ⟨f, hf, rfl⟩ := List.mem_map.1 hb
    obtain ⟨g, hg, rfl⟩ := List.mem_map.1 hc
    dsimp only at h1 h2 he
    have a1 : (pchP n (G f)).1 = f := by unfold pchP; dsimp only; rw [List.headD_eq_head?_getD, e3 f hf]; rfl
    have a2 : (pchP n (G g)).1 = g := by unfold pchP; dsimp only; rw [List.headD_eq_head?_getD, e3 g hg]; rfl
    rw [a1, a2] at he
    subst he
    rw [h1] at h2
    cases h2
/-- The place of an element among those that are like it. -/
theorem filter_place {α : Type} {q : α → Bool} : ∀ {B : List α} {j : Nat} {b : α}, B[j]? = some b → q b = true → (B.filter q)[((B.take j).filter q).length]? = some b
  | [], j, b, h, _ => by simp at h
  | a :: B, 0, b, h, hb => by
    simp only [List.getElem?_cons_zero, Option.some.injEq] at h
    subst h
    simp [hb]
  | a :: B, j + 1, b, h, hb => by
    rw [List.getElem?_cons_succ] at h
    have ih := filter_place (q := q) h hb
    rw [List.take_succ_cons]
    by_cases ha : q a = true
    · rw [List.filter_cons_of_pos ha, List.filter_cons_of_pos ha, List.length_cons, List.getElem?_cons_succ]
      exact ih
    · rw [List.filter_cons_of_neg ha, List.filter_cons_of_neg ha]
      exact ih
theorem filter_step {α : Type} {q : α → Bool} {B : List α} {j : Nat} {b : α} (h : B[j]? = some b) : ((B.take (j + 1)).filter q).length = ((B.take j).filter q).length + if q b = true then 1 else 0 := by
  rw [List.take_add_one, h, List.filter_append, List.length_append]
  by_cases hb : q b = true <;> simp [hb]
end Go.Proofs.Ytdpgohpbannfnaa
/- Layer 7's reference, plain: its component, its patch, its best direction. No program. -/
namespace Go.Proofs.Ytdpgohpbannfnaa
set_option maxRecDepth 100000
/-! The component of the first face, grown. -/
/-- The marks: only what is connected with the first, and the first. -/
structure MarkP (l : List EF) (f0 : EF) (F : List Bool) : Prop where
  len : F.length = l.length
  ok : ∀ (i : Nat) (f : EF), F[i]? = some true → l[i]? = some f → Conn l f0 f
  first : F[0]? = some true
theorem MarkP.grow {l : List EF} {f0 : EF} {F : List Bool} (H : MarkP l f0 F) {i k : Nat} {f g : EF} (hi : l[i]? = some f) (hk : l[k]? = some g) (hF : F[k]? = some true) (ht : touch f g = true) : MarkP l f0 (F.set i true) := by
  refine ⟨by rw [List.length_set]; exact H.len, fun j h hj hh => ?_, ?_⟩
  · by_cases hij : i = j
    · subst hij
      rw [hi] at hh
      injection hh with hh
      subst hh
      exact (H.ok k g hF hk).step (List.mem_of_getElem? hi) (touch_symm ht)
    · rw [List.getElem?_set_ne hij] at hj
      exact H.ok j h hj hh
  · by_cases h0 : i = 0
    · subst h0
      rw [List.getElem?_set_self (by rw [H.len]; exact (List.getElem?_eq_some_iff.1 hi).1)]
    · rw [List.getElem?_set_ne h0]
      exact H.first
theorem mark_start {f0 : EF} {l : List EF} : MarkP (f0 :: l) f0 (true :: List.replicate l.length false) := by
  refine ⟨by simp, fun i f hi hf => ?_, rfl⟩
  cases i with
  | zero => simp at hf; subst hf; exact Conn.refl _ _
  | succ i =>
    rw [List.getElem?_cons_succ, List.getElem?_replicate] at hi
    split at hi <;> simp at hi
/-- How many marks are missing. -/
def noN (F : List Bool) : Nat := F.countP fun b => !b
theorem noN_set {F : List Bool} {i : Nat} (h : F[i]? = some false) : noN (F.set i true) + 1 = noN F := by
  induction F generalizing i with
  | nil => simp at h
  | cons b F ih =>
    cases i with
    | zero =>
      simp at h; subst h
      simp [noN]
    | succ i =>
      rw [List.getElem?_cons_succ] at h
      have := ih h
      unfold noN at *
      rw [List.set_cons_succ, List.countP_cons, List.countP_cons]
      omega
/-- A whole pass that found nothing: the first i rows are closed. -/
def passP (l : List EF) (F : List Bool) (i : Nat) : Prop := ∀ (j k : Nat) (f g : EF), j < i → l[j]? = some f → l[k]? = some g → F[k]? = some true → touch f g = true → F[j]? = some true
def rowP (l : List EF) (F : List Bool) (i k : Nat) : Prop := ∀ (j : Nat) (f g : EF), j < k → l[i]? = some f → l[j]? = some g → F[j]? = some true → touch f g = true → F[i]? = some true
theorem passP.row {l : List EF} {F : List Bool} {i : Nat} (h : passP l F i) (hr : rowP l F i l.length) : passP l F (i + 1) := by
  intro j k f g hj hf hg hF ht
  by_cases hji : j = i
  · subst hji
    exact hr k f g (List.getElem?_eq_some_iff.1 hg).1 hf hg hF ht
  · exact h j k f g (by omega) hf hg hF ht
theorem rowP.done {l : List EF} {F : List Bool} {i : Nat} (h : F[i]? = some true) (k : Nat) : rowP l F i k := fun _ _ _ _ _ _ _ _ => h
theorem rowP.next {l : List EF} {F : List Bool} {i k : Nat} (h : rowP l F i k) {f g : EF} (hf : l[i]? = some f) (hg : l[k]? = some g) (hn : ¬ (F[k]? = some true ∧ touch f g = true)) : rowP l F i (k + 1) := by
  intro j f' g' hj hf' hg' hF ht
  by_cases hjk : j = k
  · subst hjk
    rw [hf] at hf'
    rw [hg] at hg'
    injection hf' with hf'
    injection hg' with hg'
    subst hf' hg'
    exact (hn ⟨hF, ht⟩).elim
  · exact h j f' g' (by omega) hf' hg' hF ht
theorem mark_done {l : List EF} {f0 : EF} {F : List Bool} (hn : l.Nodup) (H : MarkP l f0 F) (h0 : l[0]? = some f0) (hp : passP l F l.length) : ∀ (i : Nat) (f : EF), l[i]? = some f → F[i]? = some (connB l f0 f) := by
  have key : ∀ f, Conn l f0 f → ∃ i, l[i]? = some f ∧ F[i]? = some true := fun f hc =>
    hc (fun x => ∃ i, l[i]? = some x ∧ F[i]? = some true) ⟨0, h0, H.first⟩ fun a b ⟨k, hk, hFk⟩ hb ht => by
      obtain ⟨j, hj⟩ := List.mem_iff_getElem?.1 hb
      exact ⟨j, hj, hp j k b a (List.getElem?_eq_some_iff.1 hj).1 hj hk hFk (touch_symm ht)⟩
  intro i f hf
  cases hb : connB l f0 f with
  | true =>
    obtain ⟨j, hj, hF⟩ := key f (connB_iff.1 hb)
    have hij : i = j := by
      have hi' := (List.getElem?_eq_some_iff.1 hf).1
      exact (List.getElem?_inj hi' hn).1 (hf.trans hj.symm)
    rw [hij, hF]
  | false =>
    have hi' : i < F.length := by rw [H.len]; exact (List.getElem?_eq_some_iff.1 hf).1
    rw [List.getElem?_eq_getElem hi']
    cases hv : F[i] with
    | false => rfl
    | true =>
      exfalso
      have := connB_iff.2 (H.ok i f (by rw [List.getElem?_eq_getElem hi', hv]) hf)
      rw [hb] at this
      cases this
/-! What is taken: the component and the rest, over the first i faces. -/
noncomputable def pTake (l : List EF) (f0 : EF) (i : Nat) : List EF := (l.take i).filter (connB l f0)
noncomputable def rTake (l : List EF) (f0 : EF) (i : Nat) : List EF := (l.take i).filter fun g => !connB l f0 g
theorem pTake_end (l : List EF) (f0 : EF) : pTake l f0 l.length = compF l f0 := by unfold pTake compF; rw [List.take_length]
theorem rTake_end (l : List EF) (f0 : EF) : rTake l f0 l.length = restF l f0 := by unfold rTake restF; rw [List.take_length]
theorem pTake_step {l : List EF} {f0 f : EF} {i : Nat} (h : l[i]? = some f) : pTake l f0 (i + 1) = if connB l f0 f = true then pTake l f0 i ++ [f] else pTake l f0 i := by
  unfold pTake
  rw [List.take_add_one, h, List.filter_append]
  by_cases hb : connB l f0 f = true <;> simp [hb]
theorem rTake_step {l : List EF} {f0 f : EF} {i : Nat} (h : l[i]? = some f) : rTake l f0 (i + 1) = if connB l f0 f = true then rTake l f0 i else rTake l f0 i ++ [f] := by
  unfold rTake
  rw [List.take_add_one, h, List.filter_append]
  by_cases hb : connB l f0 f = true <;> simp [hb]
theorem pTake_len (l : List EF) (f0 : EF) (i : Nat) : (pTake l f0 i).length ≤ i := by
  unfold pTake
  exact Nat.le_trans (List.length_filter_le _ _) (by rw [List.length_take]; omega)
theorem rTake_len (l : List EF) (f0 : EF) (i : Nat) : (rTake l f0 i).length ≤ i := by
  unfold rTake
  exact Nat.le_trans (List.length_filter_le _ _) (by rw [List.length_take]; omega)
end Go.Proofs.Ytdpgohpbannfnaa
