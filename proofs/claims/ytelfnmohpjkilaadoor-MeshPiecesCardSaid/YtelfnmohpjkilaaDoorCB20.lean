/- Joined texts: With Cor Edge Edge2 Bord Beh Pin Chk MshA SanP MshB Wd8 Wd9 WdF ShfP RinP ShfQ. -/
import Derived.Deep.RegionHeld3
import Derived.Deep.CutBlock
import Derived.Deep.DeepCutAuto
import Derived.BigQuiet
import Derived.Test.YtelfnmohpjkilaaDoorCB3
import Derived.Test.YtelfnmohpjkilaaDoorCB4
import Derived.Test.YtelfnmohpjkilaaDoorCB10
import Derived.Test.YtelfnmohpjkilaaDoorCB11
import Derived.Test.YtelfnmohpjkilaaDoorCB12
import Derived.Test.YtelfnmohpjkilaaDoorCB14
import Derived.Test.YtelfnmohpjkilaaDoorCB17
import Derived.Test.YtelfnmohpjkilaaDoorCB18
import Derived.Test.YtelfnmohpjkilaaDoorCB19
/- ref04.with, ref04.Corners: the corners of a list, each once, in order. -/
namespace Go.Proofs.YtelfnmohpjkilaaDoor
open Go.RowKit Go.Sort
theorem infoPt : (Tryd.prog.info? 23).map (fun i => (i.zero, i.size, i.bytes)) = some (some (.agg #[.int .i64 0, .int .i64 0, .int .i64 0]), 3, 24) := by kernel_rfl
/-- The place of a point among ordered ones. -/
def atP (l : List Pt) (p : Pt) : Nat := (l.takeWhile fun x => ltP x p).length
def withP (l : List Pt) (p : Pt) : List Pt := if l[atP l p]? = some p then l else l.take (atP l p) ++ (p :: l.drop (atP l p))
theorem atP_eq {l : List Pt} {p : Pt} {a : Nat} (ha : a ≤ l.length) (hlo : ∀ j q, j < a → l[j]? = some q → ltP q p = true) (hhi : ∀ q, l[a]? = some q → ltP q p = false) : a = atP l p := by
  unfold atP
  induction l generalizing a with
  | nil => simpa using ha
  | cons x l ih =>
    cases a with
    | zero =>
      have := hhi x rfl
      simp [this]
    | succ a =>
      have h0 := hlo 0 x (by omega) rfl
      rw [List.takeWhile_cons, h0, if_pos rfl, List.length_cons]
      rw [← ih (a := a) (by simpa using ha) (fun j q hj hq => hlo (j + 1) q (by omega) (by simpa using hq)) (fun q hq => hhi q (by simpa using hq))]
theorem withP_length (l : List Pt) (p : Pt) : (withP l p).length ≤ l.length + 1 := by
  unfold withP
  split
  · omega
  · simp; omega
theorem withP_mem {l : List Pt} {p q : Pt} (h : q ∈ withP l p) : q ∈ l ∨ q = p := by
  unfold withP at h
  split at h
  · exact .inl h
  · rcases List.mem_append.1 h with h | h
    · exact .inl (List.mem_of_mem_take h)
    · rcases List.mem_cons.1 h with h | h
      · exact .inr h
      · exact .inl (List.mem_of_mem_drop h)
theorem Sl.pt8 {w : World} {B b o : Nat} {ps : List Pt} (h : Sl encP 3 w B (some ⟨b, o, none⟩) ps) {i : Nat} {p : Pt} (hi : ps[i]? = some p) :
    w.cell? ⟨b, o + i * 3, none⟩ = some (.int .i64 p.1) ∧ w.cell? ⟨b, o + i * 3 + 1, none⟩ = some (.int .i64 p.2.1) ∧ w.cell? ⟨b, o + i * 3 + 2, none⟩ = some (.int .i64 p.2.2) := by
  obtain ⟨b', o', ha, _, hc⟩ := h.at hi
  cases ha
  exact ⟨hc 0 _ rfl, hc 1 _ rfl, hc 2 _ rfl⟩
theorem Sl.take8 {α : Type} {enc : α → List Value} {k B : Nat} {w : World} {A : Option Addr} {xs : List α} (h : Sl enc k w B A xs) (a : Nat) : Sl enc k w B A (xs.take a) := by
  rcases h with ⟨rfl, h⟩ | ⟨b, o, hA, hb, hc⟩
  · exact .inl ⟨by simp, h⟩
  · refine .inr ⟨b, o, hA, hb, fun i x hx => hc i x ?_⟩
    rw [List.getElem?_take] at hx
    split at hx
    · exact hx
    · cases hx
theorem Blk.three8 {w : World} {g : Nat} {t : TypeId} {a b c : Value} (h : Blk w g t #[a, b, c]) : w.cell? ⟨g, 0, none⟩ = some a ∧ w.cell? ⟨g, 1, none⟩ = some b ∧ w.cell? ⟨g, 2, none⟩ = some c := ⟨h.cell 0, h.cell 1, h.cell 2⟩
end Go.Proofs.YtelfnmohpjkilaaDoor
/- ref04.Corners. -/
namespace Go.Proofs.YtelfnmohpjkilaaDoor
open Go.RowKit Go.Sort
def corN (l : List Pt) (t : Tri) (j : Nat) : List Pt := if j = 0 then l else if j = 1 then withP l t.1 else if j = 2 then withP (withP l t.1) t.2.1 else withP (withP (withP l t.1) t.2.1) t.2.2
theorem corN_succ (l : List Pt) (t : Tri) {j : Nat} (hj : j < 3) : withP (corN l t j) (corner t j) = corN l t (j + 1) := by
  have hc : j = 0 ∨ j = 1 ∨ j = 2 := by omega
  rcases hc with rfl | rfl | rfl <;> rfl
/-- The corners of triangles, each once, in order. -/
def cornersP (ts : List Tri) : List Pt := ts.foldl (fun l t => corN l t 3) []
theorem cornersP_snoc (ts : List Tri) (k : Nat) (t : Tri) (h : ts[k]? = some t) : cornersP (ts.take (k + 1)) = corN (cornersP (ts.take k)) t 3 := by
  unfold cornersP
  rw [List.take_add_one, h, Option.toList_some, List.foldl_append]
  rfl
theorem corner_fits {t : Tri} (h : fitsT t) (j : Nat) : fitsP (corner t j) := by
  unfold corner
  split
  · exact h.1
  · split
    · exact h.2.1
    · exact h.2.2
theorem CellsT.corner8 {w : World} {b o : Nat} {t : Tri} (h : CellsT w b o t) {j : Nat} (hj : j < 3) :
    w.cell? ⟨b, o + j * 3, none⟩ = some (.int .i64 (corner t j).1) ∧ w.cell? ⟨b, o + j * 3 + 1, none⟩ = some (.int .i64 (corner t j).2.1) ∧ w.cell? ⟨b, o + j * 3 + 2, none⟩ = some (.int .i64 (corner t j).2.2) := by
  obtain ⟨h0, h1, h2, h3, h4, h5, h6, h7, h8⟩ := h
  have hc : j = 0 ∨ j = 1 ∨ j = 2 := by omega
  rcases hc with rfl | rfl | rfl
  · exact ⟨h0, h1, h2⟩
  · exact ⟨h3, h4, h5⟩
  · exact ⟨h6, h7, h8⟩
end Go.Proofs.YtelfnmohpjkilaaDoor
/- ref04.Edges, count, lessEdge. -/
namespace Go.Proofs.YtelfnmohpjkilaaDoor
open Go.RowKit Go.Sort
abbrev Ed := Pt × Pt
def encE (e : Ed) : List Value := [.int .i64 e.1.1, .int .i64 e.1.2.1, .int .i64 e.1.2.2, .int .i64 e.2.1, .int .i64 e.2.2.1, .int .i64 e.2.2.2]
abbrev vE (e : Ed) : Value := .agg #[.int .i64 e.1.1, .int .i64 e.1.2.1, .int .i64 e.1.2.2, .int .i64 e.2.1, .int .i64 e.2.2.1, .int .i64 e.2.2.2]
theorem encE_len (e : Ed) : (encE e).length = 6 := rfl
theorem encE_one (e : Ed) : ∀ u ∈ encE e, u.oneCell' = true := by
  intro u hu
  simp only [encE, List.mem_cons, List.not_mem_nil, or_false] at hu
  rcases hu with rfl | rfl | rfl | rfl | rfl | rfl <;> rfl
theorem infoE : (Tryd.prog.info? 44).map (fun i => (i.zero, i.size, i.bytes)) = some (some (.agg #[.int .i64 0, .int .i64 0, .int .i64 0, .int .i64 0, .int .i64 0, .int .i64 0]), 6, 48) := by kernel_rfl
def fitsE (e : Ed) : Prop := fitsP e.1 ∧ fitsP e.2
set_option maxRecDepth 100000 in
theorem litsE (e : Ed) (he : fitsE e) : Tryd.prog.keyLits 3 44 (encE e) = some [.int .i64 e.1.1, .int .i64 e.1.2.1, .int .i64 e.1.2.2, .int .i64 e.2.1, .int .i64 e.2.2.1, .int .i64 e.2.2.2] := by
  have c : Tryd.prog.cellsOf 23 = 3 := by kernel_rfl
  have c9 : Tryd.prog.cellsOf 44 = 6 := by kernel_rfl
  have h0 := litsP e.1 he.1
  have h1 := litsP e.2 he.2
  unfold Program.keyLits
  simp [encE, Tryd.underlying44, c, c9, List.range_succ, h0, h1]
set_option maxRecDepth 100000 in
theorem eqE (a b : Ed) (ha : fitsE a) (hb : fitsE b) (w : World) : (Op.equalIn 10000 44 (vE a) (vE b)).run Tryd.prog w = .ok (decide (a = b)) w := by
  have c : Tryd.prog.cellsOf 44 = 6 := by kernel_rfl
  obtain ⟨r, hr, he⟩ := run_equalIn_deep (P := Tryd.prog) 9997 3 44 (by kernel_rfl) w 3 3 (vE a) (vE b) _ _ (by simp [Value.formed, Tryd.underlying44, c]) (by simp [Value.formed, Tryd.underlying44, c]) (litsE a ha) (litsE b hb)
  rw [hr]
  have : r = decide (a = b) := by
    rw [Bool.eq_iff_iff, he]
    obtain ⟨⟨a1, a2, a3⟩, a4, a5, a6⟩ := a
    obtain ⟨⟨b1, b2, b3⟩, b4, b5, b6⟩ := b
    simp [and_assoc]
  rw [this]
section
variable {α : Type} {enc : α → List Value} {k B : Nat}
theorem Sl.of_blk (hk : ∀ x, (enc x).length = k) {w : World} {g : Nat} {t : TypeId} {ys : List α} (h : Blk w g t (ys.flatMap enc).toArray) (hg : g < B) : Sl enc k w B (some ⟨g, 0, none⟩) ys := by
  refine .inr ⟨g, 0, rfl, hg, fun i x hi j u hu => ?_⟩
  rw [show 0 + i * k + j = i * k + j by omega, h.cell]
  have := flat_get hk ys i x hi j u hu
  simpa using this
end
/-- The edges of a triangle, of triangles. -/
def edges3 (t : Tri) : List Ed := [(t.1, t.2.1), (t.2.1, t.2.2), (t.2.2, t.1)]
def edgesP (ts : List Tri) : List Ed := ts.flatMap edges3
theorem edgesP_length (ts : List Tri) : (edgesP ts).length = 3 * ts.length := by
  unfold edgesP
  induction ts with
  | nil => rfl
  | cons t ts ih => rw [List.flatMap_cons, List.length_append, ih, List.length_cons]; simp [edges3]; omega
theorem edgesP_snoc (ts : List Tri) (k : Nat) (t : Tri) (h : ts[k]? = some t) : edgesP (ts.take (k + 1)) = edgesP (ts.take k) ++ edges3 t := by
  unfold edgesP
  rw [List.take_add_one, h, Option.toList_some, List.flatMap_append, List.flatMap_singleton]
theorem edgesP_fits {ts : List Tri} (h : ∀ t ∈ ts, fitsT t) : ∀ e ∈ edgesP ts, fitsE e := by
  intro e he
  obtain ⟨t, ht, he⟩ := List.mem_flatMap.1 he
  have hf := h t ht
  simp only [edges3, List.mem_cons, List.not_mem_nil, or_false] at he
  rcases he with rfl | rfl | rfl
  · exact ⟨hf.1, hf.2.1⟩
  · exact ⟨hf.2.1, hf.2.2⟩
  · exact ⟨hf.2.2, hf.1⟩
end Go.Proofs.YtelfnmohpjkilaaDoor
/- ref04.count, lessEdge. -/
namespace Go.Proofs.YtelfnmohpjkilaaDoor
open Go.RowKit Go.Sort
theorem Sl.ed {w : World} {B b o : Nat} {es : List Ed} (h : Sl encE 6 w B (some ⟨b, o, none⟩) es) {i : Nat} {e : Ed} (hi : es[i]? = some e) :
    w.cell? ⟨b, o + i * 6, none⟩ = some (.int .i64 e.1.1) ∧ w.cell? ⟨b, o + i * 6 + 1, none⟩ = some (.int .i64 e.1.2.1) ∧ w.cell? ⟨b, o + i * 6 + 2, none⟩ = some (.int .i64 e.1.2.2) ∧ w.cell? ⟨b, o + i * 6 + 3, none⟩ = some (.int .i64 e.2.1) ∧ w.cell? ⟨b, o + i * 6 + 4, none⟩ = some (.int .i64 e.2.2.1) ∧ w.cell? ⟨b, o + i * 6 + 5, none⟩ = some (.int .i64 e.2.2.2) := by
  obtain ⟨b', o', ha, _, hc⟩ := h.at hi
  cases ha
  exact ⟨hc 0 _ rfl, hc 1 _ rfl, hc 2 _ rfl, hc 3 _ rfl, hc 4 _ rfl, hc 5 _ rfl⟩
theorem Blk.six {w : World} {g : Nat} {t : TypeId} {e : Ed} (h : Blk w g t (encE e).toArray) :
    w.cell? ⟨g, 0, none⟩ = some (.int .i64 e.1.1) ∧ w.cell? ⟨g, 1, none⟩ = some (.int .i64 e.1.2.1) ∧ w.cell? ⟨g, 2, none⟩ = some (.int .i64 e.1.2.2) ∧ w.cell? ⟨g, 3, none⟩ = some (.int .i64 e.2.1) ∧ w.cell? ⟨g, 4, none⟩ = some (.int .i64 e.2.2.1) ∧ w.cell? ⟨g, 5, none⟩ = some (.int .i64 e.2.2.2) :=
  ⟨h.cell 0, h.cell 1, h.cell 2, h.cell 3, h.cell 4, h.cell 5⟩
def cntE (l : List Ed) (e : Ed) : Nat := l.countP fun x => decide (x = e)
theorem cntE_le (l : List Ed) (e : Ed) : cntE l e ≤ l.length := List.countP_le_length
theorem cntE_snoc (l : List Ed) (e x : Ed) (k : Nat) (h : l[k]? = some x) : cntE (l.take (k + 1)) e = cntE (l.take k) e + if x = e then 1 else 0 := by
  unfold cntE
  rw [List.take_add_one, h, Option.toList_some, List.countP_append, List.countP_singleton]
  simp
def ltE (a b : Ed) : Bool := if a.1 = b.1 then ltP a.2 b.2 else ltP a.1 b.1
end Go.Proofs.YtelfnmohpjkilaaDoor
/- ref04.Border. -/
namespace Go.Proofs.YtelfnmohpjkilaaDoor
open Go.RowKit Go.Sort
def atE (l : List Ed) (e : Ed) : Nat := (l.takeWhile fun x => ltE x e).length
def insE (l : List Ed) (e : Ed) : List Ed := l.take (atE l e) ++ (e :: l.drop (atE l e))
theorem atE_eq {l : List Ed} {p : Ed} {a : Nat} (ha : a ≤ l.length) (hlo : ∀ j q, j < a → l[j]? = some q → ltE q p = true) (hhi : ∀ q, l[a]? = some q → ltE q p = false) : a = atE l p := by
  unfold atE
  induction l generalizing a with
  | nil => simpa using ha
  | cons x l ih =>
    cases a with
    | zero =>
      have := hhi x rfl
      simp [this]
    | succ a =>
      have h0 := hlo 0 x (by omega) rfl
      rw [List.takeWhile_cons, h0, if_pos rfl, List.length_cons]
      rw [← ih (a := a) (by simpa using ha) (fun j q hj hq => hlo (j + 1) q (by omega) (by simpa using hq)) (fun q hq => hhi q (by simpa using hq))]
def swapE (e : Ed) : Ed := (e.2, e.1)
def bordS (all out : List Ed) (e : Ed) : List Ed := if 0 < cntE all (swapE e) ∨ 0 < cntE out e then out else insE out e
def bordP (all : List Ed) : List Ed := all.foldl (bordS all) []
def borderP (ts : List Tri) : List Ed := bordP (edgesP ts)
theorem insE_length (l : List Ed) (e : Ed) : (insE l e).length = l.length + 1 := by
  unfold insE
  rw [List.length_append, List.length_cons, List.length_take, List.length_drop]
  have : atE l e ≤ l.length := by unfold atE; exact (List.takeWhile_prefix _).length_le
  omega
theorem insE_mem {l : List Ed} {e x : Ed} (h : x ∈ insE l e) : x ∈ l ∨ x = e := by
  unfold insE at h
  rcases List.mem_append.1 h with h | h
  · exact .inl (List.mem_of_mem_take h)
  · rcases List.mem_cons.1 h with h | h
    · exact .inr h
    · exact .inl (List.mem_of_mem_drop h)
theorem bord_snoc (all : List Ed) (k : Nat) (e : Ed) (h : all[k]? = some e) : (all.take (k + 1)).foldl (bordS all) [] = bordS all ((all.take k).foldl (bordS all) []) e := by
  rw [List.take_add_one, h, Option.toList_some, List.foldl_append]
  rfl
/-- What the outer loop has. -/
structure BdS (w0 : Nat) (w wr : World) (ab : Nat) (all out : List Ed) (A' : Option Addr) (lo c' : Nat) : Prop where
  len : lo = out.length
  sl : Sl encE 6 wr wr.heap.size A' out
  cap : lo ≤ c'
  fit : ∀ x ∈ out, fitsE x
  bel : Below w0 w wr
  big : ab ≤ wr.heap.size
theorem BdS.step {w0 : Nat} {w wr w2 : World} {ab : Nat} {all out : List Ed} {A' : Option Addr} {lo c' : Nat} (h : BdS w0 w wr ab all out A' lo c') (hB : Below wr.heap.size wr w2) (h0 : w0 ≤ ab := by omega) : BdS w0 w w2 ab all out A' lo c' :=
  ⟨h.len, (h.sl.below hB).more hB.size, h.cap, h.fit, h.bel.trans (hB.mono (by have := h.big; omega)), by have := h.big; have := hB.size; omega⟩
end Go.Proofs.YtelfnmohpjkilaaDoor
/- ref04.behind (printed by mk_Beh.py). -/
namespace Go.Proofs.YtelfnmohpjkilaaDoor
open Go.RowKit Go.Sort
def behK (t : Tri) (p q : Pt) : Option Pt := if t.1 = p ∧ t.2.1 = q then some t.2.2 else if t.2.1 = p ∧ t.2.2 = q then some t.1 else if t.2.2 = p ∧ t.1 = q then some t.2.1 else none
/-- The corner behind the edge from p to q. -/
def behP (l : List Tri) (p q : Pt) : Option Pt := l.findSome? fun t => behK t p q
theorem behK_at {t : Tri} {p q : Pt} (j : Nat) (hj : j < 3) (h1 : corner t j = p) (h2 : corner t ((j + 1) % 3) = q) (hn : ∀ i, i < j → ¬(corner t i = p ∧ corner t ((i + 1) % 3) = q)) : behK t p q = some (corner t ((j + 2) % 3)) := by
  unfold behK
  have hc : j = 0 ∨ j = 1 ∨ j = 2 := by omega
  rcases hc with rfl | rfl | rfl
  · exact if_pos ⟨h1, h2⟩
  · exact (if_neg (hn 0 (by omega))).trans (if_pos ⟨h1, h2⟩)
  · exact (if_neg (hn 0 (by omega))).trans ((if_neg (hn 1 (by omega))).trans (if_pos ⟨h1, h2⟩))
theorem behK_none {t : Tri} {p q : Pt} (hn : ∀ i, i < 3 → ¬(corner t i = p ∧ corner t ((i + 1) % 3) = q)) : behK t p q = none := by
  unfold behK
  exact (if_neg (hn 0 (by omega))).trans ((if_neg (hn 1 (by omega))).trans (if_neg (hn 2 (by omega))))
theorem noJ_succ {t : Tri} {p q : Pt} {j : Nat} (hn : ∀ i, i < j → ¬(corner t i = p ∧ corner t ((i + 1) % 3) = q)) (h : ¬(corner t j = p ∧ corner t ((j + 1) % 3) = q)) : ∀ i, i < j + 1 → ¬(corner t i = p ∧ corner t ((i + 1) % 3) = q) := fun i hi => by
  rcases Nat.lt_or_ge i j with h1 | h1
  · exact hn i h1
  · have e : i = j := by omega
    rw [e]; exact h
theorem findSome_take {α β : Type} (f : α → Option β) (l : List α) (k : Nat) (x : α) (h : l[k]? = some x) : (l.take (k + 1)).findSome? f = ((l.take k).findSome? f).or (f x) := by
  rw [List.take_add_one, h, Option.toList_some, List.findSome?_append]
  simp [List.findSome?_cons]
  cases f x <;> rfl
theorem bh_some {l : List Tri} {p q r : Pt} {k : Nat} {t : Tri} (h : l[k]? = some t) (hn : behP (l.take k) p q = none) (hb : behK t p q = some r) : behP l p q = some r := by
  have h1 : behP (l.take (k + 1)) p q = some r := by
    unfold behP at hn ⊢
    rw [findSome_take _ _ _ _ h, hn, hb]; rfl
  unfold behP at h1 ⊢
  rw [← List.take_append_drop (k + 1) l, List.findSome?_append, h1]
  rfl
/-- Where the boxes lie. -/
structure BhX (w X : World) (p q : Pt) : Prop where
  bel : Below w.heap.size w X
  bp : Blk X w.heap.size 23 #[.int .i64 p.1, .int .i64 p.2.1, .int .i64 p.2.2]
  bq : Blk X (w.heap.size + 1) 23 #[.int .i64 q.1, .int .i64 q.2.1, .int .i64 q.2.2]
  br : Blk X (w.heap.size + 1 + 1) 23 #[.int .i64 0, .int .i64 0, .int .i64 0]
theorem beh_ret {w X : World} {p q r : Pt} {b : Bool} {fn : Func} {R : Ending → World → Prop} {a : Act} {w' : World} (hd : a.defers = []) (h : BhX w X p q) (m : Nat)
    (hr : ∀ Z : World, Z.cell? ⟨w.heap.size + 1 + 1, 0, none⟩ = some (.int .i64 r.1) → Z.cell? ⟨w.heap.size + 1 + 1, 1, none⟩ = some (.int .i64 r.2.1) → Z.cell? ⟨w.heap.size + 1 + 1, 2, none⟩ = some (.int .i64 r.2.2) → (results fn a.tmps).run Tryd.prog Z = .ok (.tuple #[vP r, .bool b]) Z)
    (hw : w' = ((((X.drewN m).setCell ⟨w.heap.size + 1 + 1, 0, none⟩ (.int .i64 r.1)).setCell ⟨w.heap.size + 1 + 1, 1, none⟩ (.int .i64 r.2.1)).setCell ⟨w.heap.size + 1 + 1, 2, none⟩ (.int .i64 r.2.2)))
    (hR : ∀ W, Below w.heap.size w W → R (.returned (.tuple #[vP r, .bool b])) W) : bodyPost Tryd.prog fn R .ret a w' := by
  subst hw
  obtain ⟨z0, z1, z2⟩ := ((h.br.drewN m).set3 (.int .i64 r.1) (.int .i64 r.2.1) (.int .i64 r.2.2)).three8
  exact bodyPost_ret (hr _ z0 z1 z2) hd (hR _ ((((below_drewN h.bel m).setCell (by dsimp only; omega) _).setCell (by dsimp only; omega) _).setCell (by dsimp only; omega) _))
end Go.Proofs.YtelfnmohpjkilaaDoor
/- ref04.pinched (printed by mk_Pin.py). -/
namespace Go.Proofs.YtelfnmohpjkilaaDoor
open Go.RowKit Go.Sort
theorem own_row8 {β : Type} {encb : β → List Value} {kb : Nat} {eb : TypeId} {n base : Nat} {w : World} {v : Value} {xs : List β} {t : TypeId} (h : Own encb kb eb w base v n xs) (hte : eb ≠ t) : ∀ r, v.ownBlock = some r → r < base ∨ ∀ cs, w.heap[r]? ≠ some (.cells cs t (0, 0)) := fun r hr => by
  obtain ⟨cs, hc⟩ := h.cells r hr
  refine .inr fun cs' hc' => ?_
  rw [hc] at hc'
  cases hc'
  exact hte rfl
/-- The triangles at p, with the corner that follows there. -/
def pinN (t : Tri) (p : Pt) (j : Nat) : List (Tri × Pt) := (List.range j).flatMap fun i => if corner t i = p then [(t, corner t ((i + 1) % 3))] else []
def pinL (l : List Tri) (p : Pt) : List (Tri × Pt) := l.flatMap fun t => pinN t p 3
theorem pinN_yes (j : Nat) {t : Tri} {p : Pt} (h : corner t j = p) : pinN t p (j + 1) = pinN t p j ++ [(t, corner t ((j + 1) % 3))] := by
  unfold pinN
  rw [List.range_succ, List.flatMap_append, List.flatMap_singleton, if_pos h]
theorem pinN_no (j : Nat) {t : Tri} {p : Pt} (h : corner t j ≠ p) : pinN t p (j + 1) = pinN t p j := by
  unfold pinN
  rw [List.range_succ, List.flatMap_append, List.flatMap_singleton, if_neg h, List.append_nil]
theorem pinL_snoc (l : List Tri) (p : Pt) (k : Nat) (t : Tri) (h : l[k]? = some t) : pinL (l.take (k + 1)) p = pinL (l.take k) p ++ pinN t p 3 := by
  unfold pinL
  rw [List.take_add_one, h, Option.toList_some, List.flatMap_append, List.flatMap_singleton]
theorem pinL_fits {l : List Tri} {p : Pt} (h : ∀ t ∈ l, fitsT t) : ∀ x ∈ pinL l p, fitsT x.1 ∧ fitsP x.2 := by
  intro x hx
  obtain ⟨t, ht, hx⟩ := List.mem_flatMap.1 hx
  obtain ⟨i, _, hx⟩ := List.mem_flatMap.1 hx
  split at hx
  · rw [List.mem_singleton.1 hx]
    exact ⟨h t ht, corner_fits (h t ht) _⟩
  · cases hx
/-- Round the corner, from one start. -/
def runP (mine : List Tri) (p s : Pt) : Nat → Pt → Bool
  | 0, _ => false
  | f + 1, x => match behP mine p x with
    | none => false
    | some y => if y = s then true else runP mine p s f y
def pinchedP (l : List Tri) (p : Pt) : Bool := ((pinL l p).map (·.2)).any fun s => runP ((pinL l p).map (·.1)) p s ((pinL l p).length - 1) s
theorem CellsT.below8 {w w' : World} {b o n : Nat} {t : Tri} (h : CellsT w b o t) (hB : Below n w w') (hb : b < n) : CellsT w' b o t := by
  obtain ⟨h0, h1, h2, h3, h4, h5, h6, h7, h8⟩ := h
  exact ⟨(hB.cell (p := ⟨b, _, none⟩) hb).trans h0, (hB.cell (p := ⟨b, _, none⟩) hb).trans h1, (hB.cell (p := ⟨b, _, none⟩) hb).trans h2, (hB.cell (p := ⟨b, _, none⟩) hb).trans h3, (hB.cell (p := ⟨b, _, none⟩) hb).trans h4, (hB.cell (p := ⟨b, _, none⟩) hb).trans h5, (hB.cell (p := ⟨b, _, none⟩) hb).trans h6, (hB.cell (p := ⟨b, _, none⟩) hb).trans h7, (hB.cell (p := ⟨b, _, none⟩) hb).trans h8⟩
theorem behP_fits {l : List Tri} (h : ∀ t ∈ l, fitsT t) {p q r : Pt} (hb : behP l p q = some r) : fitsP r := by
  unfold behP at hb
  obtain ⟨t, ht, hr⟩ := List.exists_of_findSome?_eq_some hb
  have hf := h t ht
  unfold behK at hr
  split at hr
  · cases hr; exact hf.2.2
  · split at hr
    · cases hr; exact hf.1
    · split at hr
      · cases hr; exact hf.2.1
      · cases hr
end Go.Proofs.YtelfnmohpjkilaaDoor
/- ref04.check, Check. -/
namespace Go.Proofs.YtelfnmohpjkilaaDoor
open Go.RowKit Go.Sort
def flatT (t : Tri) : Bool := decide (t.1 = t.2.1) || decide (t.2.1 = t.2.2) || decide (t.2.2 = t.1)
def twiceE (l : List Ed) (e : Ed) : Bool := decide (1 < cntE l e)
def checkP (l : List Tri) (op : Bool) : Int := if l.any flatT = true then 20 else if (edgesP l).any (twiceE (edgesP l)) = true then 21 else if (!op && decide (0 < (borderP l).length)) = true then 22 else if (cornersP l).any (pinchedP l) = true then 23 else 0
theorem any_none {α : Type} {f : α → Bool} {l : List α} {n k : Nat} (hn : n = l.length) (hk : n ≤ k) (h : ∀ i x, i < k → l[i]? = some x → f x = false) : l.any f = false := by
  rw [List.any_eq_false]
  intro x hx
  obtain ⟨i, hi⟩ := List.mem_iff_getElem?.1 hx
  have hil : i < l.length := (List.getElem?_eq_some_iff.1 hi).1
  rw [h i x (by omega) hi]
  simp
theorem any_some {α : Type} {f : α → Bool} {l : List α} {k : Nat} {x : α} (h : l[k]? = some x) (hf : f x = true) : l.any f = true := List.any_eq_true.2 ⟨x, List.mem_of_getElem? h, hf⟩
theorem none_succ {α : Type} {f : α → Bool} {l : List α} {k : Nat} {x : α} (hk : l[k]? = some x) (h : ∀ i x, i < k → l[i]? = some x → f x = false) (hf : f x = false) : ∀ i x, i < k + 1 → l[i]? = some x → f x = false := fun i y hi hy => by
  rcases Nat.lt_or_ge i k with h1 | h1
  · exact h i y h1 hy
  · have e : i = k := by omega
    subst e
    rw [hk] at hy
    cases hy
    exact hf
theorem corN_le (l : List Pt) (t : Tri) : (corN l t 3).length ≤ l.length + 3 := by
  have h1 := withP_length l t.1
  have h2 := withP_length (withP l t.1) t.2.1
  have h3 := withP_length (withP (withP l t.1) t.2.1) t.2.2
  show (withP (withP (withP l t.1) t.2.1) t.2.2).length ≤ _
  omega
theorem cornersP_le (ts : List Tri) : (cornersP ts).length ≤ 3 * ts.length := by
  have key : ∀ (us : List Tri) (l : List Pt), (us.foldl (fun l t => corN l t 3) l).length ≤ l.length + 3 * us.length := by
    intro us
    induction us with
    | nil => intro l; simp
    | cons t us ih =>
      intro l
      have h1 := ih (corN l t 3)
      have h2 := corN_le l t
      rw [List.foldl_cons, List.length_cons]
      omega
  have := key ts []
  unfold cornersP
  simpa using this
end Go.Proofs.YtelfnmohpjkilaaDoor
/- Layer 4, plain: ordered lists; corners, borders and pairs as sets. No program. -/
namespace Go.Proofs.YtelfnmohpjkilaaDoor
open Go.RowKit Go.Sort
section
variable {α : Type} {lt : α → α → Bool}
def Srt (lt : α → α → Bool) (l : List α) : Prop := l.Pairwise fun a b => lt a b = true
theorem Srt.nodup (h : STO lt) {l : List α} (hl : Srt lt l) : l.Nodup := hl.imp fun {f g} h' e => by subst e; rw [h.irrefl] at h'; cases h'
theorem srt_uniq (h : STO lt) {l m : List α} (hl : Srt lt l) (hm : Srt lt m) (hmem : ∀ x, x ∈ l ↔ x ∈ m) : l = m := by
  haveI : DecidableEq α := fun a b => Classical.propDecidable (a = b)
  exact ((List.perm_ext_iff_of_nodup (hl.nodup h) (hm.nodup h)).2 hmem).eq_of_pairwise (fun a b _ _ h1 h2 => by have := h.trans _ _ _ h1 h2; rw [h.irrefl] at this; cases this) hl hm
/-- The library's sort. -/
def sortG (lt : α → α → Bool) (l : List α) : List α := l.mergeSort fun x y => !lt y x
theorem sortG_mem {l : List α} {x : α} : x ∈ sortG lt l ↔ x ∈ l := List.mem_mergeSort
theorem sortG_length (l : List α) : (sortG lt l).length = l.length := by simp [sortG]
theorem sortG_srt (h : STO lt) {l : List α} (hl : l.Nodup) : Srt lt (sortG lt l) := by
  have hp : (sortG lt l).Perm l := List.mergeSort_perm l _
  have hs : (sortG lt l).Pairwise fun f g => (!lt g f) = true := List.pairwise_mergeSort (fun a b c h1 h2 => by
    rw [Bool.not_eq_true'] at *
    exact h.swo.ntrans _ _ _ h2 h1) (fun a b => by
    rw [Bool.or_eq_true, Bool.not_eq_true', Bool.not_eq_true']
    cases h1 : lt b a with
    | false => exact .inl rfl
    | true =>
      refine .inr ?_
      cases h2 : lt a b with
      | false => rfl
      | true => have := h.trans _ _ _ h1 h2; rw [h.irrefl] at this; cases this) l
  have hnd : (sortG lt l).Nodup := hp.nodup_iff.2 hl
  refine (hs.and hnd).imp fun {a b} hab => ?_
  have h1 : lt b a = false := by have := hab.1; rwa [Bool.not_eq_true'] at this
  cases h2 : lt a b with
  | true => rfl
  | false => exact absurd (h.total a b h2 h1) hab.2
/-- Insertion at the place that the order tells. -/
def atG (lt : α → α → Bool) (l : List α) (p : α) : Nat := (l.takeWhile fun x => lt x p).length
def insG (lt : α → α → Bool) (l : List α) (p : α) : List α := l.take (atG lt l p) ++ (p :: l.drop (atG lt l p))
theorem insG_mem {l : List α} {p q : α} : q ∈ insG lt l p ↔ q ∈ l ∨ q = p := by
  unfold insG
  rw [List.mem_append, List.mem_cons]
  have : q ∈ l ↔ q ∈ l.take (atG lt l p) ∨ q ∈ l.drop (atG lt l p) := by rw [← List.mem_append, List.take_append_drop]
  rw [this]
  constructor
  · rintro (h | h | h)
    · exact .inl (.inl h)
    · exact .inr h
    · exact .inl (.inr h)
  · rintro ((h | h) | h)
    · exact .inl h
    · exact .inr (.inr h)
    · exact .inr (.inl h)
theorem atG_cons (a : α) (l : List α) (p : α) : atG lt (a :: l) p = if lt a p = true then atG lt l p + 1 else 0 := by
  unfold atG
  rw [List.takeWhile_cons]
  split <;> rfl
theorem atG_spec : ∀ (l : List α) (p : α), (∀ x ∈ l.take (atG lt l p), lt x p = true) ∧ ∀ x, l[atG lt l p]? = some x → lt x p = false
  | [], p => ⟨by simp, by simp⟩
  | a :: l, p => by
    have ih := atG_spec l p
    rw [atG_cons]
    by_cases h : lt a p = true
    · rw [if_pos h]
      refine ⟨fun x hx => ?_, fun x hx => ?_⟩
      · rw [List.take_succ_cons] at hx
        rcases List.mem_cons.1 hx with rfl | hx
        · exact h
        · exact ih.1 x hx
      · rw [List.getElem?_cons_succ] at hx
        exact ih.2 x hx
    · rw [if_neg h]
      refine ⟨by simp, fun x hx => ?_⟩
      simp only [List.getElem?_cons_zero, Option.some.injEq] at hx
      rw [← hx]
      simpa using h
theorem insG_srt (ho : STO lt) {l : List α} (h : Srt lt l) (p : α) (hne : l[atG lt l p]? ≠ some p) : Srt lt (insG lt l p) := by
  have hlo := (atG_spec (lt := lt) l p).1
  have hhi : ∀ x ∈ l.drop (atG lt l p), lt p x = true := fun x hx => by
    obtain ⟨j, hj⟩ := List.mem_iff_getElem?.1 hx
    rw [List.getElem?_drop] at hj
    obtain ⟨hlt, ej⟩ := List.getElem?_eq_some_iff.1 hj
    have hi : atG lt l p < l.length := by omega
    have h0 : lt l[atG lt l p] p = false := (atG_spec l p).2 _ (List.getElem?_eq_getElem hi)
    have hn : l[atG lt l p] ≠ p := fun e => hne (by rw [List.getElem?_eq_getElem hi, e])
    have h1 : lt p l[atG lt l p] = true := by
      cases hb : lt p l[atG lt l p] with
      | true => rfl
      | false => exact absurd (ho.total _ _ h0 hb) hn
    rcases Nat.eq_zero_or_pos j with rfl | hj0
    · simp only [Nat.add_zero] at ej; rw [← ej]; exact h1
    · have := List.pairwise_iff_getElem.1 h (atG lt l p) (atG lt l p + j) hi hlt (by omega)
      rw [ej] at this
      exact ho.trans _ _ _ h1 this
  refine List.pairwise_append.2 ⟨h.sublist (List.take_sublist _ _), List.pairwise_cons.2 ⟨hhi, h.sublist (List.drop_sublist _ _)⟩, fun a ha b hb => ?_⟩
  rcases List.mem_cons.1 hb with rfl | hb
  · exact hlo a ha
  · exact ho.trans _ _ _ (hlo a ha) (hhi b hb)
end
/-! What is met, each once, in the order in which it is met. -/
section
variable {α : Type} [DecidableEq α]
def addL (L : List α) (x : α) : List α := if x ∈ L then L else L ++ [x]
def dedup (xs : List α) : List α := xs.foldl addL []
theorem addL_mem {L : List α} {x y : α} : y ∈ addL L x ↔ y ∈ L ∨ y = x := by
  unfold addL
  split
  · rename_i h
    constructor
    · exact .inl
    · rintro (h1 | rfl)
      · exact h1
      · exact h
  · rw [List.mem_append, List.mem_singleton]
theorem addL_nodup {L : List α} (h : L.Nodup) (x : α) : (addL L x).Nodup := by
  unfold addL
  split
  · exact h
  · rename_i hx
    rw [List.nodup_append]
    refine ⟨h, by simp, fun a ha b hb => ?_⟩
    rw [List.mem_singleton] at hb
    subst hb
    intro e
    subst e
    exact hx ha
theorem addL_length (L : List α) (x : α) : (addL L x).length ≤ L.length + 1 := by
  unfold addL
  split
  · omega
  · simp
theorem fold_addL_mem {xs L : List α} {y : α} : y ∈ xs.foldl addL L ↔ y ∈ L ∨ y ∈ xs := by
  induction xs generalizing L with
  | nil => simp
  | cons x xs ih =>
    rw [List.foldl_cons, ih, addL_mem, List.mem_cons, or_assoc]
theorem dedup_mem {xs : List α} {y : α} : y ∈ dedup xs ↔ y ∈ xs := by
  unfold dedup
  rw [fold_addL_mem]
  simp
theorem fold_addL_nodup {xs L : List α} (h : L.Nodup) : (xs.foldl addL L).Nodup := by
  induction xs generalizing L with
  | nil => exact h
  | cons x xs ih => exact ih (addL_nodup h x)
theorem dedup_nodup (xs : List α) : (dedup xs).Nodup := fold_addL_nodup List.nodup_nil
theorem dedup_snoc (xs : List α) (x : α) : dedup (xs ++ [x]) = addL (dedup xs) x := by
  unfold dedup
  rw [List.foldl_append]
  rfl
theorem dedup_length (xs : List α) : (dedup xs).length ≤ xs.length := by
  have key : ∀ (xs L : List α), (xs.foldl addL L).length ≤ L.length + xs.length := by
    intro xs
    induction xs with
    | nil => intro L; simp
    | cons x xs ih =>
      intro L
      have h1 := ih (addL L x)
      have h2 := addL_length L x
      rw [List.foldl_cons, List.length_cons]
      omega
  have := key xs []
  unfold dedup
  simpa using this
omit [DecidableEq α] in
theorem nodup_snoc {xs : List α} {x : α} : (xs ++ [x]).Nodup ↔ xs.Nodup ∧ x ∉ xs := by
  rw [List.nodup_append]
  constructor
  · rintro ⟨h1, _, h3⟩
    exact ⟨h1, fun hx => h3 x hx x (by simp) rfl⟩
  · rintro ⟨h1, h2⟩
    refine ⟨h1, by simp, fun a ha b hb e => ?_⟩
    rw [List.mem_singleton] at hb
    subst hb
    subst e
    exact h2 ha
end
/-! Corners. -/
def cors3 (t : Tri) : List Pt := [t.1, t.2.1, t.2.2]
def corsP (ts : List Tri) : List Pt := ts.flatMap cors3
theorem withP_iff4 {l : List Pt} {p q : Pt} : q ∈ withP l p ↔ q ∈ l ∨ q = p := by
  unfold withP
  split
  · rename_i h
    constructor
    · exact .inl
    · rintro (h1 | rfl)
      · exact h1
      · exact List.mem_of_getElem? h
  · exact insG_mem (lt := ltP)
theorem withP_srt {l : List Pt} (h : Srt ltP l) (p : Pt) : Srt ltP (withP l p) := by
  unfold withP
  split
  · exact h
  · rename_i hne
    exact insG_srt sto_P h p hne
theorem corners_both (ts : List Tri) : Srt ltP (cornersP ts) ∧ ∀ q, q ∈ cornersP ts ↔ q ∈ corsP ts := by
  have key : ∀ (ts : List Tri) (l : List Pt), Srt ltP l → Srt ltP (ts.foldl (fun l t => corN l t 3) l) ∧ ∀ q, q ∈ ts.foldl (fun l t => corN l t 3) l ↔ q ∈ l ∨ q ∈ corsP ts := by
    intro ts
    induction ts with
    | nil => intro l h; exact ⟨h, fun q => by simp [corsP]⟩
    | cons t ts ih =>
      intro l h
      obtain ⟨h1, h2⟩ := ih (corN l t 3) (withP_srt (withP_srt (withP_srt h _) _) _)
      refine ⟨h1, fun q => ?_⟩
      rw [List.foldl_cons, h2]
      show q ∈ withP (withP (withP l t.1) t.2.1) t.2.2 ∨ _ ↔ _
      rw [withP_iff4, withP_iff4, withP_iff4]
      unfold corsP
      rw [List.flatMap_cons, List.mem_append]
      unfold cors3
      simp only [List.mem_cons, List.not_mem_nil, or_false]
      constructor
      · rintro ((((h | h) | h) | h) | h)
        · exact .inl h
        · exact .inr (.inl (.inl h))
        · exact .inr (.inl (.inr (.inl h)))
        · exact .inr (.inl (.inr (.inr h)))
        · exact .inr (.inr h)
      · rintro (h | (h | h | h) | h)
        · exact .inl (.inl (.inl (.inl h)))
        · exact .inl (.inl (.inl (.inr h)))
        · exact .inl (.inl (.inr h))
        · exact .inl (.inr h)
        · exact .inr h
  have := key ts [] List.Pairwise.nil
  refine ⟨this.1, fun q => (this.2 q).trans (by simp)⟩
/-- The program's corners: a set, sorted. -/
theorem corners_sort {L : List Pt} {ts : List Tri} (hn : L.Nodup) (hm : ∀ q, q ∈ L ↔ q ∈ corsP ts) : sortG ltP L = cornersP ts :=
  srt_uniq sto_P (sortG_srt sto_P hn) (corners_both ts).1 fun q => by rw [sortG_mem, hm, (corners_both ts).2]
theorem corners_len (ts : List Tri) : (cornersP ts).length = (dedup (corsP ts)).length := by
  rw [← corners_sort (dedup_nodup _) (fun q => dedup_mem), sortG_length]
/-! The border. -/
theorem ltE_lex : ltE = lexB ltP ltP := by
  funext a b
  obtain ⟨a1, a2⟩ := a
  obtain ⟨b1, b2⟩ := b
  simp only [ltE, lexB]
  by_cases h1 : a1 = b1 <;> simp [h1, sto_P.irrefl]
theorem sto_E : STO ltE := by rw [ltE_lex]; exact sto_P.lex sto_P
theorem cntE_pos {l : List Ed} {e : Ed} : 0 < cntE l e ↔ e ∈ l := by
  unfold cntE
  rw [List.countP_pos_iff]
  simp
theorem border_both (ts : List Tri) : Srt ltE (borderP ts) ∧ ∀ e, e ∈ borderP ts ↔ e ∈ edgesP ts ∧ swapE e ∉ edgesP ts := by
  have key : ∀ (all : List Ed) (xs l : List Ed), Srt ltE l → Srt ltE (xs.foldl (bordS all) l) ∧ ∀ e, e ∈ xs.foldl (bordS all) l ↔ e ∈ l ∨ (e ∈ xs ∧ swapE e ∉ all) := by
    intro all xs
    induction xs with
    | nil => intro l h; exact ⟨h, fun e => by simp⟩
    | cons x xs ih =>
      intro l h
      have hb : Srt ltE (bordS all l x) ∧ ∀ e, e ∈ bordS all l x ↔ e ∈ l ∨ (e = x ∧ swapE e ∉ all) := by
        unfold bordS
        split
        · rename_i hc
          refine ⟨h, fun e => ?_⟩
          constructor
          · exact .inl
          · rintro (h1 | ⟨rfl, h1⟩)
            · exact h1
            · rcases hc with hc | hc
              · exact absurd (cntE_pos.1 hc) h1
              · exact cntE_pos.1 hc
        · rename_i hc
          have h1 : swapE x ∉ all := fun h1 => hc (.inl (cntE_pos.2 h1))
          have h2 : x ∉ l := fun h1 => hc (.inr (cntE_pos.2 h1))
          refine ⟨insG_srt sto_E h x (fun hh => h2 (List.mem_of_getElem? hh)), fun e => ?_⟩
          show e ∈ insG ltE l x ↔ _
          rw [insG_mem]
          constructor
          · rintro (h3 | rfl)
            · exact .inl h3
            · exact .inr ⟨rfl, h1⟩
          · rintro (h3 | ⟨h3, _⟩)
            · exact .inl h3
            · exact .inr h3
      obtain ⟨h1, h2⟩ := ih _ hb.1
      refine ⟨h1, fun e => ?_⟩
      rw [List.foldl_cons, h2, hb.2, List.mem_cons]
      constructor
      · rintro ((h | ⟨h, k⟩) | ⟨h, k⟩)
        · exact .inl h
        · exact .inr ⟨.inl h, k⟩
        · exact .inr ⟨.inr h, k⟩
      · rintro (h | ⟨h | h, k⟩)
        · exact .inl (.inl h)
        · exact .inl (.inr ⟨h, k⟩)
        · exact .inr ⟨h, k⟩
  have := key (edgesP ts) (edgesP ts) [] List.Pairwise.nil
  exact ⟨this.1, fun e => (this.2 e).trans (by simp)⟩
theorem border_sort {L : List Ed} {ts : List Tri} (hn : L.Nodup) (hm : ∀ e, e ∈ L ↔ e ∈ edgesP ts ∧ swapE e ∉ edgesP ts) : sortG ltE L = borderP ts :=
  srt_uniq sto_E (sortG_srt sto_E hn) (border_both ts).1 fun q => by rw [sortG_mem, hm, (border_both ts).2]
theorem cntE_count (es : List Ed) (e : Ed) : cntE es e = List.count e es := by
  unfold cntE List.count
  exact List.countP_congr fun x _ => by simp
theorem twice_iff (es : List Ed) : es.any (twiceE es) = true ↔ ¬ es.Nodup := by
  rw [List.any_eq_true]
  constructor
  · rintro ⟨e, he, h⟩ hn
    have h1 := List.nodup_iff_count.1 hn e
    have h2 : 1 < cntE es e := of_decide_eq_true h
    rw [cntE_count] at h2
    omega
  · intro hn
    have h1 : ∃ e, 1 < List.count e es := by
      exact Classical.byContradiction fun h => hn (List.nodup_iff_count.2 fun e => Nat.le_of_not_lt fun h' => h ⟨e, h'⟩)
    obtain ⟨e, he⟩ := h1
    refine ⟨e, List.count_pos_iff.1 (by omega), ?_⟩
    show decide (1 < cntE es e) = true
    rw [cntE_count]
    exact decide_eq_true he
/-! Pairs. -/
def normE (e : Ed) : Ed := if ltP e.2 e.1 = true then swapE e else e
theorem normE_swap (e : Ed) : normE (swapE e) = normE e := by
  unfold normE swapE
  by_cases h1 : ltP e.2 e.1 = true
  · have h2 : ltP e.1 e.2 = false := by
      cases h2 : ltP e.1 e.2 with
      | false => rfl
      | true => have := sto_P.trans _ _ _ h1 h2; rw [sto_P.irrefl] at this; cases this
    simp [h1, h2]
  · by_cases h2 : ltP e.1 e.2 = true
    · simp [h1, h2]
    · have : e.1 = e.2 := sto_P.total _ _ (by simpa using h2) (by simpa using h1)
      obtain ⟨a, b⟩ := e
      simp only at this
      subst this
      simp
theorem normE_or (e : Ed) : normE e = e ∨ normE e = swapE e := by
  unfold normE
  split
  · exact .inr rfl
  · exact .inl rfl
theorem swapE_swap (e : Ed) : swapE (swapE e) = e := rfl
theorem normE_eq {a b : Ed} : normE a = normE b ↔ a = b ∨ a = swapE b := by
  constructor
  · intro h
    rcases normE_or a with h1 | h1 <;> rcases normE_or b with h2 | h2 <;> rw [h1, h2] at h
    · exact .inl h
    · exact .inr h
    · exact .inr (by rw [← h]; rfl)
    · exact .inl (by rw [← swapE_swap a, h]; rfl)
  · rintro (rfl | rfl)
    · rfl
    · exact normE_swap b
def pairS (out : List Ed) (e : Ed) : List Ed := if cntE out e = 0 ∧ cntE out (swapE e) = 0 then out ++ [e] else out
def pairsR (es : List Ed) : List Ed := es.foldl pairS []
theorem pairs_map (es : List Ed) : (pairsR es).map normE = dedup (es.map normE) := by
  have key : ∀ (es out : List Ed), (es.foldl pairS out).map normE = (es.map normE).foldl addL (out.map normE) := by
    intro es
    induction es with
    | nil => intro out; rfl
    | cons e es ih =>
      intro out
      rw [List.foldl_cons, ih, List.map_cons, List.foldl_cons]
      congr 1
      unfold pairS addL
      have hc : normE e ∈ out.map normE ↔ ¬ (cntE out e = 0 ∧ cntE out (swapE e) = 0) := by
        rw [List.mem_map]
        constructor
        · rintro ⟨x, hx, h⟩ ⟨h1, h2⟩
          rcases normE_eq.1 h with rfl | rfl
          · have := cntE_pos.2 hx; omega
          · have := cntE_pos.2 hx; omega
        · intro h
          rcases Nat.eq_zero_or_pos (cntE out e) with h1 | h1
          · rcases Nat.eq_zero_or_pos (cntE out (swapE e)) with h2 | h2
            · exact absurd ⟨h1, h2⟩ h
            · exact ⟨_, cntE_pos.1 h2, normE_swap e⟩
          · exact ⟨_, cntE_pos.1 h1, rfl⟩
      by_cases h : cntE out e = 0 ∧ cntE out (swapE e) = 0
      · rw [if_pos h, if_neg (fun h' => hc.1 h' h), List.map_append]; rfl
      · rw [if_neg h, if_pos (hc.2 h)]
  exact key es []
theorem pairs_len (es : List Ed) : (pairsR es).length = (dedup (es.map normE)).length := by rw [← pairs_map, List.length_map]
/-- The Euler number. -/
def eulerP (ts : List Tri) : Int := ((cornersP ts).length : Int) - ((dedup ((edgesP ts).map normE)).length : Int) + (ts.length : Int)
end Go.Proofs.YtelfnmohpjkilaaDoor
/- law04.sanity's constants; plain. -/
namespace Go.Proofs.YtelfnmohpjkilaaDoor
def kO : Pt := (0, 0, 0)
def kX : Pt := (1, 0, 0)
def kY : Pt := (0, 1, 0)
def kZ : Pt := (0, 0, 1)
def tetP : List Tri := [(kO, kY, kX), (kO, kX, kZ), (kO, kZ, kY), (kX, kY, kZ)]
def turP : List Tri := [(kO, kY, kX), (kO, kZ, kX), (kO, kZ, kY), (kX, kY, kZ)]
def negP4 (p : Pt) : Pt := (-p.1, -p.2.1, -p.2.2)
def negT4 (t : Tri) : Tri := (negP4 t.1, negP4 t.2.2, negP4 t.2.1)
def twiP : List Tri := tetP ++ tetP.map negT4
theorem tet_check : checkP tetP false = 0 := by decide
theorem tet_euler : eulerP tetP = 2 := by decide
theorem tet3_check : checkP (tetP.take 3) false = 22 := by decide
theorem tet3_open : checkP (tetP.take 3) true = 0 := by decide
theorem tet3_border : borderP (tetP.take 3) = [(kZ, kY), (kY, kX), (kX, kZ)] := by decide
theorem tur_check : checkP turP false = 21 := by decide
theorem twi_check : checkP twiP false = 23 := by decide
theorem rot_zyo : rotT (kZ, kY, kO) = (kO, kZ, kY) := by decide
instance dec_fits (n : Int) : Decidable (fits n) := by unfold fits; infer_instance
instance dec_fitsP (p : Pt) : Decidable (fitsP p) := by unfold fitsP; infer_instance
instance dec_fitsT (t : Tri) : Decidable (fitsT t) := by unfold fitsT; infer_instance
theorem tet_fits : ∀ t ∈ tetP, fitsT t := by decide
theorem tur_fits : ∀ t ∈ turP, fitsT t := by decide
theorem twi_fits : ∀ t ∈ twiP, fitsT t := by decide
end Go.Proofs.YtelfnmohpjkilaaDoor
/- Layer 4, plain: what the program's check tells is what the reference tells. No program. -/
namespace Go.Proofs.YtelfnmohpjkilaaDoor
open Go.RowKit Go.Sort
/-! The neighbour behind, as the program keeps it: the last one that was laid down. -/
def edJ (t : Tri) (j : Nat) : Ed := (corner t j, corner t ((j + 1) % 3))
def updE (m : Ed → Option Pt) (e : Ed) (v : Pt) : Ed → Option Pt := fun q => if q = e then some v else m q
def nxtJ (m : Ed → Option Pt) (t : Tri) : Nat → Ed → Option Pt
  | 0 => m
  | j + 1 => updE (nxtJ m t j) (edJ t j) (corner t ((j + 2) % 3))
def nxtN (l : List Tri) : Ed → Option Pt := l.foldl (fun m t => nxtJ m t 3) fun _ => none
theorem nxtN_snoc (l : List Tri) (k : Nat) (t : Tri) (h : l[k]? = some t) : nxtN (l.take (k + 1)) = nxtJ (nxtN (l.take k)) t 3 := by
  unfold nxtN
  rw [List.take_add_one, h, Option.toList_some, List.foldl_append]
  rfl
/-- How many triangles are at each corner. -/
def cntJ (t : Tri) (p : Pt) (j : Nat) : Nat := (pinN t p j).length
def cntC (l : List Tri) (p : Pt) : Nat := (pinL l p).length
theorem cntJ_succ (t : Tri) (p : Pt) (j : Nat) : cntJ t p (j + 1) = if p = corner t j then cntJ t p j + 1 else cntJ t p j := by
  unfold cntJ
  by_cases h : corner t j = p
  · rw [pinN_yes j h, if_pos h.symm]; simp
  · rw [pinN_no j h, if_neg (fun e => h e.symm)]
theorem cntC_snoc (l : List Tri) (p : Pt) (k : Nat) (t : Tri) (h : l[k]? = some t) : cntC (l.take (k + 1)) p = cntC (l.take k) p + cntJ t p 3 := by
  unfold cntC cntJ
  rw [pinL_snoc _ _ _ _ h, List.length_append]
theorem edges3_nodup {t : Tri} (h : (edges3 t).Nodup) : (t.1, t.2.1) ≠ (t.2.1, t.2.2) ∧ (t.1, t.2.1) ≠ (t.2.2, t.1) ∧ (t.2.1, t.2.2) ≠ (t.2.2, t.1) := by
  unfold edges3 at h
  simp only [List.nodup_cons, List.mem_cons, List.not_mem_nil, or_false, not_or, not_false_eq_true] at h
  exact ⟨h.1.1, h.1.2, h.2.1⟩
theorem behK_mem {t : Tri} {e : Ed} (h : e ∉ edges3 t) : behK t e.1 e.2 = none := by
  unfold edges3 at h
  simp only [List.mem_cons, List.not_mem_nil, or_false, not_or] at h
  obtain ⟨h1, h2, h3⟩ := h
  unfold behK
  rw [if_neg (fun c => h1 (Prod.ext c.1.symm c.2.symm)), if_neg (fun c => h2 (Prod.ext c.1.symm c.2.symm)), if_neg (fun c => h3 (Prod.ext c.1.symm c.2.symm))]
theorem nxtJ_beh {t : Tri} (hn : (edges3 t).Nodup) (m : Ed → Option Pt) (e : Ed) : nxtJ m t 3 e = (behK t e.1 e.2).or (m e) := by
  obtain ⟨h1, h2, h3⟩ := edges3_nodup hn
  show (if e = (t.2.2, t.1) then some t.2.1 else if e = (t.2.1, t.2.2) then some t.1 else if e = (t.1, t.2.1) then some t.2.2 else m e) = _
  unfold behK
  by_cases c1 : e = (t.1, t.2.1)
  · subst c1
    rw [if_neg h2, if_neg h1, if_pos rfl, if_pos ⟨rfl, rfl⟩]; rfl
  · rw [if_neg (fun c : t.1 = e.1 ∧ t.2.1 = e.2 => c1 (Prod.ext c.1.symm c.2.symm))]
    by_cases c2 : e = (t.2.1, t.2.2)
    · subst c2
      rw [if_neg h3, if_pos rfl, if_pos ⟨rfl, rfl⟩]; rfl
    · rw [if_neg (fun c : t.2.1 = e.1 ∧ t.2.2 = e.2 => c2 (Prod.ext c.1.symm c.2.symm))]
      by_cases c3 : e = (t.2.2, t.1)
      · subst c3
        rw [if_pos rfl, if_pos ⟨rfl, rfl⟩]; rfl
      · rw [if_neg c3, if_neg c2, if_neg c1, if_neg (fun c : t.2.2 = e.1 ∧ t.1 = e.2 => c3 (Prod.ext c.1.symm c.2.symm))]; rfl
theorem behP_snoc (l : List Tri) (t : Tri) (p q : Pt) : behP (l ++ [t]) p q = (behP l p q).or (behK t p q) := by
  unfold behP
  rw [List.findSome?_append]
  simp
theorem behP_mem {l : List Tri} {e : Ed} (h : e ∉ edgesP l) : behP l e.1 e.2 = none := by
  unfold behP
  rw [List.findSome?_eq_none_iff]
  intro t ht
  exact behK_mem fun h' => h (List.mem_flatMap.2 ⟨t, ht, h'⟩)
theorem nxtN_beh {l : List Tri} (hn : (edgesP l).Nodup) : ∀ e, nxtN l e = behP l e.1 e.2 := by
  have key : ∀ (k : Nat), k ≤ l.length → ∀ e, nxtN (l.take k) e = behP (l.take k) e.1 e.2 := by
    intro k
    induction k with
    | zero => intro _ e; rfl
    | succ k ih =>
      intro hk e
      obtain ⟨t, ht⟩ : ∃ t, l[k]? = some t := ⟨_, List.getElem?_eq_getElem hk⟩
      have hsub : (edgesP (l.take (k + 1))).Sublist (edgesP l) := by
        have h1 := List.take_append_drop (k + 1) l
        have h2 : edgesP l = edgesP (l.take (k + 1)) ++ edgesP (l.drop (k + 1)) := by
          unfold edgesP
          rw [← List.flatMap_append, h1]
        rw [h2]
        exact List.sublist_append_left _ _
      have hd := hn.sublist hsub
      rw [edgesP_snoc _ _ _ ht, List.nodup_append] at hd
      rw [nxtN_snoc _ _ _ ht, nxtJ_beh hd.2.1, ih (by omega)]
      have e1 : l.take (k + 1) = l.take k ++ [t] := by rw [List.take_add_one, ht]; rfl
      rw [e1, behP_snoc]
      by_cases hm : e ∈ edges3 t
      · have : e ∉ edgesP (l.take k) := fun h' => hd.2.2 e h' e hm rfl
        rw [behP_mem this]
        cases behK t e.1 e.2 <;> rfl
      · rw [behK_mem hm]
        cases behP (l.take k) e.1 e.2 <;> rfl
  intro e
  have := key l.length (Nat.le_refl _) e
  rwa [List.take_length] at this
theorem behP_has {l : List Tri} {e : Ed} (h : e ∈ edgesP l) : ∃ x, behP l e.1 e.2 = some x := by
  obtain ⟨t, ht, he⟩ := List.mem_flatMap.1 h
  cases hb : behP l e.1 e.2 with
  | some x => exact ⟨x, rfl⟩
  | none =>
    exfalso
    unfold behP at hb
    rw [List.findSome?_eq_none_iff] at hb
    have h1 := hb t ht
    unfold behK at h1
    simp only [edges3, List.mem_cons, List.not_mem_nil, or_false] at he
    rcases he with rfl | rfl | rfl
    · rw [if_pos ⟨rfl, rfl⟩] at h1; cases h1
    · split at h1
      · cases h1
      · rw [if_pos ⟨rfl, rfl⟩] at h1; cases h1
    · split at h1
      · cases h1
      · split at h1
        · cases h1
        · rw [if_pos ⟨rfl, rfl⟩] at h1; cases h1
/-! Among the triangles at a corner alone. -/
theorem behK_at_p {t : Tri} {p q x : Pt} (h : behK t p q = some x) : pinN t p 3 ≠ [] := by
  have hh : t.1 = p ∨ t.2.1 = p ∨ t.2.2 = p := by
    unfold behK at h
    split at h
    · rename_i c; exact .inl c.1
    · split at h
      · rename_i c; exact .inr (.inl c.1)
      · split at h
        · rename_i c; exact .inr (.inr c.1)
        · cases h
  intro hn
  have key : ∀ j, j < 3 → corner t j ≠ p := fun j hj hc => by
    have : (t, corner t ((j + 1) % 3)) ∈ pinN t p 3 := List.mem_flatMap.2 ⟨j, List.mem_range.2 hj, by rw [if_pos hc]; simp⟩
    rw [hn] at this
    cases this
  rcases hh with h | h | h
  · exact key 0 (by omega) h
  · exact key 1 (by omega) h
  · exact key 2 (by omega) h
theorem pinN_fst {t : Tri} {p : Pt} {j : Nat} : ∀ x ∈ (pinN t p j).map (·.1), x = t := by
  intro x hx
  obtain ⟨y, hy, rfl⟩ := List.mem_map.1 hx
  obtain ⟨i, _, hy⟩ := List.mem_flatMap.1 hy
  split at hy
  · rw [List.mem_singleton.1 hy]
  · cases hy
theorem findSome_rep {β : Type} (f : Tri → Option β) (t : Tri) : ∀ l : List Tri, (∀ x ∈ l, x = t) → l ≠ [] → l.findSome? f = f t
  | [], _, h => absurd rfl h
  | [x], h, _ => by
    rw [h x (by simp)]
    simp [List.findSome?]
    cases f t <;> rfl
  | x :: y :: l, h, _ => by
    rw [List.findSome?_cons, h x (by simp)]
    cases hf : f t with
    | some v => rfl
    | none => 
      have := findSome_rep f t (y :: l) (fun z hz => h z (by simp [List.mem_cons.1 hz])) (by simp)
      rw [hf] at this
      exact this
theorem behP_mine (l : List Tri) (p q : Pt) : behP ((pinL l p).map (·.1)) p q = behP l p q := by
  unfold pinL
  induction l with
  | nil => rfl
  | cons t l ih =>
    rw [List.flatMap_cons, List.map_append]
    unfold behP at *
    rw [List.findSome?_append, ih, List.findSome?_cons]
    by_cases hn : pinN t p 3 = []
    · rw [hn]
      cases hb : behK t p q with
      | none => rfl
      | some x => exact absurd hn (behK_at_p hb)
    · rw [findSome_rep (fun t => behK t p q) t _ pinN_fst (fun h => hn (List.map_eq_nil_iff.1 h))]
      cases behK t p q <;> rfl
theorem runP_O (l : List Tri) (p s : Pt) : ∀ (n : Nat) (x : Pt), runP ((pinL l p).map (·.1)) p s n x = runO (fun q => behP l p q) s n x
  | 0, x => rfl
  | n + 1, x => by
    unfold runP runO
    rw [behP_mine]
    cases behP l p x with
    | none => rfl
    | some y =>
      show (if y = s then true else runP ((pinL l p).map (·.1)) p s n y) = (decide (y = s) || runO (fun q => behP l p q) s n y)
      rw [← runP_O l p s n y]
      by_cases h : y = s
      · simp [h]
      · simp [h]
theorem pinL_iff {l : List Tri} {p s : Pt} : s ∈ (pinL l p).map (·.2) ↔ (p, s) ∈ edgesP l := by
  unfold pinL edgesP
  rw [List.map_flatMap, List.mem_flatMap, List.mem_flatMap]
  constructor
  · rintro ⟨t, ht, hs⟩
    refine ⟨t, ht, ?_⟩
    obtain ⟨y, hy, rfl⟩ := List.mem_map.1 hs
    obtain ⟨i, hi, hy⟩ := List.mem_flatMap.1 hy
    rw [List.mem_range] at hi
    split at hy
    · rename_i hc
      rw [List.mem_singleton.1 hy]
      have hc3 : i = 0 ∨ i = 1 ∨ i = 2 := by omega
      rcases hc3 with rfl | rfl | rfl <;> (subst hc; simp [edges3, corner])
    · cases hy
  · rintro ⟨t, ht, hs⟩
    refine ⟨t, ht, ?_⟩
    simp only [edges3, List.mem_cons, List.not_mem_nil, or_false, Prod.mk.injEq] at hs
    rw [List.mem_map]
    rcases hs with ⟨rfl, rfl⟩ | ⟨rfl, rfl⟩ | ⟨rfl, rfl⟩
    · exact ⟨(t, t.2.1), List.mem_flatMap.2 ⟨0, by simp, by rw [if_pos (show corner t 0 = t.1 from rfl)]; exact List.mem_singleton.2 rfl⟩, rfl⟩
    · exact ⟨(t, t.2.2), List.mem_flatMap.2 ⟨1, by simp, by rw [if_pos (show corner t 1 = t.2.1 from rfl)]; exact List.mem_singleton.2 rfl⟩, rfl⟩
    · exact ⟨(t, t.1), List.mem_flatMap.2 ⟨2, by simp, by rw [if_pos (show corner t 2 = t.2.2 from rfl)]; exact List.mem_singleton.2 rfl⟩, rfl⟩
/-- The program's ring from one edge. -/
def ringM (l : List Tri) (e : Ed) : Bool := match behP l e.1 e.2 with
  | none => false
  | some x => prgO (fun q => behP l e.1 q) e.2 (cntC l e.1) (cntC l e.1) 1 x
theorem edge_cors {l : List Tri} {e : Ed} (h : e ∈ edgesP l) : e.1 ∈ corsP l := by
  obtain ⟨t, ht, he⟩ := List.mem_flatMap.1 h
  refine List.mem_flatMap.2 ⟨t, ht, ?_⟩
  simp only [edges3, List.mem_cons, List.not_mem_nil, or_false] at he
  rcases he with rfl | rfl | rfl <;> simp [cors3]
theorem pinch_same (l : List Tri) : (cornersP l).any (pinchedP l) = (edgesP l).any (ringM l) := by
  have hr : ∀ e ∈ edgesP l, ringM l e = runP ((pinL l e.1).map (·.1)) e.1 e.2 ((pinL l e.1).length - 1) e.2 := fun e he => by
    obtain ⟨x, hx⟩ := behP_has he
    unfold ringM
    rw [hx]
    show prgO _ _ _ _ _ _ = _
    rw [ring_same (fun q => behP l e.1 q) e.2 x (cntC l e.1) (cntC l e.1) hx (Nat.le_refl _), runP_O]
    rfl
  rw [Bool.eq_iff_iff, List.any_eq_true, List.any_eq_true]
  constructor
  · rintro ⟨p, _, h⟩
    unfold pinchedP at h
    rw [List.any_eq_true] at h
    obtain ⟨s, hs, h⟩ := h
    have he : (p, s) ∈ edgesP l := pinL_iff.1 hs
    exact ⟨(p, s), he, by rw [hr _ he]; exact h⟩
  · rintro ⟨e, he, h⟩
    refine ⟨e.1, ((corners_both l).2 _).2 (edge_cors he), ?_⟩
    unfold pinchedP
    rw [List.any_eq_true]
    exact ⟨e.2, pinL_iff.2 he, by rw [← hr e he]; exact h⟩
/-- What the program's check tells. -/
theorem check_is (l : List Tri) (op : Bool) : checkP l op = if l.any flatT = true then 20 else if ¬ (edgesP l).Nodup then 21 else if (!op && decide (0 < (borderP l).length)) = true then 22 else if (edgesP l).any (ringM l) = true then 23 else 0 := by
  unfold checkP
  rw [pinch_same]
  by_cases h : (edgesP l).any (twiceE (edgesP l)) = true
  · rw [if_pos h, if_pos ((twice_iff _).1 h)]
  · rw [if_neg h, if_neg (fun h' => h ((twice_iff _).2 h'))]
end Go.Proofs.YtelfnmohpjkilaaDoor
/- Numbers as values; ref01.Neg. -/
namespace Go.Proofs.YtelfnmohpjkilaaDoor
open Go.RowKit Go.Sort
/-- v stands for x. -/
def WideI (v : Value) (x : Int) : Prop := ∃ neg l, v = wvalV neg l ∧ okD l ∧ trimD l = l ∧ x = intD neg l ∧ (l = [] → neg = false)
theorem intD_abs (neg : Bool) (l : List Nat) : (intD neg l).natAbs = valD l := by
  unfold intD
  cases neg
  · rw [if_neg (by decide)]; exact Int.natAbs_natCast _
  · rw [if_pos rfl, Int.natAbs_neg]; exact Int.natAbs_natCast _
theorem wide_len {neg : Bool} {l : List Nat} (ht : trimD l = l) (h : (intD neg l).natAbs < 65536 ^ 8) : l.length ≤ 8 := by
  rw [intD_abs] at h
  by_cases hne : l = []
  · subst hne; simp
  · have h1 := val_ge ht hne
    have h2 : 65536 ^ (l.length - 1) < 65536 ^ 8 := Nat.lt_of_le_of_lt h1 h
    have h3 := (Nat.pow_lt_pow_iff_right (by omega)).1 h2
    omega
theorem wideI_sg {neg : Bool} {l : List Nat} (ho : okD l) : WideI (wvalV (sgB neg (trimD l)) (trimD l)) (intD neg l) := by
  refine ⟨_, _, rfl, trim_ok ho, trim_trim l, ?_, fun h => by rw [h]; cases neg <;> rfl⟩
  unfold intD
  rw [valD_trim]
  cases h : trimD l with
  | nil =>
    have h0 : valD l = 0 := by rw [← valD_trim, h]; rfl
    rw [h0]
    cases neg <;> rfl
  | cons d m => cases neg <;> rfl
theorem WideI.form {v : Value} {x : Int} (h : WideI v x) : ∃ b s, v = .agg #[.bool b, .string s] := by
  obtain ⟨neg, l, rfl, _⟩ := h
  exact ⟨neg, strB l, rfl⟩
/-- ref01.wide, as a number. -/
theorem wideE_any (neg : Bool) (A : Option Addr) (c : Nat) (l : List Nat) (w : World) (hs : Sl encI 1 w w.heap.size A l) (hlc : l.length ≤ c) (hok : okD l) (hl : l.length ≤ 1000000) (x : Int) (hx : x = intD neg l) :
    Calls Tryd.prog 26 #[.bool neg, .slice A l.length c] w fun e w' => ∃ b s, e = .returned (.agg #[.bool b, .string s]) ∧ WideI (.agg #[.bool b, .string s]) x ∧ Below w.heap.size w w' := by
  subst hx
  refine (wideW_any neg A c l w hs hlc hok hl).mono ?_
  rintro e w' ⟨rfl, hB⟩
  exact ⟨_, _, rfl, wideI_sg hok, hB⟩
theorem intD_not (neg : Bool) (l : List Nat) : intD (!neg) l = - intD neg l := by
  unfold intD
  cases neg <;> simp
end Go.Proofs.YtelfnmohpjkilaaDoor
/- ref01.Add, Sub, Mul (printed by mk_Wd9.py). -/
namespace Go.Proofs.YtelfnmohpjkilaaDoor
open Go.RowKit Go.Sort
theorem add_same {na nb : Bool} {a b out : List Nat} (h : na = nb) (hv : valD out = valD a + valD b) : intD na a + intD nb b = intD na out := by
  subst h; unfold intD; rw [hv]; cases na <;> simp <;> omega
theorem add_left {na nb : Bool} {a b out : List Nat} (h : na ≠ nb) (hv : valD out + valD b = valD a) : intD na a + intD nb b = intD na out := by
  unfold intD; rw [← hv]; cases na <;> cases nb <;> simp at h ⊢ <;> omega
theorem add_right {na nb : Bool} {a b out : List Nat} (h : na ≠ nb) (hv : valD out + valD a = valD b) : intD na a + intD nb b = intD nb out := by
  unfold intD; rw [← hv]; cases na <;> cases nb <;> simp at h ⊢ <;> omega
theorem mul_sign {na nb : Bool} {a b out : List Nat} (hv : valD out = valD a * valD b) : intD na a * intD nb b = intD (na != nb) out := by
  unfold intD; rw [hv, Int.natCast_mul]; cases na <;> cases nb <;> simp [Int.neg_mul, Int.mul_neg]
end Go.Proofs.YtelfnmohpjkilaaDoor
/- ref01.From. -/
namespace Go.Proofs.YtelfnmohpjkilaaDoor
open Go.RowKit Go.Sort
theorem u64_small {a : Int} (h0 : 0 ≤ a) (h1 : a < 1099511627776) : IntKind.u64.wrap a = a := by
  have e : IntKind.u64.wrap a = a % 18446744073709551616 := by simp [IntKind.wrap, IntKind.bits, IntKind.signed]
  rw [e]
  omega
theorem pow_few {k m v n : Nat} (h : v + 65536 ^ k * m = n) (hm : 0 < m) (hn : n < 1099511627776) : k ≤ 2 := by
  rcases Nat.lt_or_ge 2 k with hk | hk
  · have h1 : 65536 ^ 3 ≤ 65536 ^ k := Nat.pow_le_pow_right (by omega) (by omega)
    have h2 : 65536 ^ k * 1 ≤ 65536 ^ k * m := Nat.mul_le_mul_left _ hm
    omega
  · exact hk
theorem from_step {out : List Nat} {k m n : Nat} (hl : out.length = k) (h : valD out + 65536 ^ k * m = n) : valD (out ++ [m % 65536]) + 65536 ^ (k + 1) * (m / 65536) = n := by
  have e : 65536 ^ k * (m % 65536) + 65536 ^ (k + 1) * (m / 65536) = 65536 ^ k * m := by
    rw [Nat.pow_succ, Nat.mul_assoc, ← Nat.mul_add, Nat.mod_add_div]
  rw [valD_snoc, hl]
  omega
set_option maxRecDepth 100000 in
set_option maxHeartbeats 16000000 in
theorem fromW_any (n : Nat) (hn : n < 1099511627776) (w : World) :
    Calls Tryd.prog 12 #[.int .i64 n] w fun e w' => ∃ b s, e = .returned (.agg #[.bool b, .string s]) ∧ WideI (.agg #[.bool b, .string s]) (n : Int) ∧ Below w.heap.size w w' := by
  have i0 : ¬ (n : Int) < 0 := by omega
  have iu : IntKind.u64.wrap (n : Int) = (n : Int) := u64_small (by omega) (by omega)
  go_enter Tryd.func12, Tryd.ntmps12
  go_upto_region 1 with fail
  obtain ⟨X, hX⟩ : ∃ X, X = w.alloc (.cells #[.bool false, .string ⟨#[]⟩] 35) := ⟨_, rfl⟩
  rw [← hX]
  have hb : Blk X w.heap.size 35 #[.bool false, .string ⟨#[]⟩] := by rw [hX]; exact Blk.new _ _ _
  have hBX : Below w.heap.size w X := by rw [hX]; exact (Below.refl _ w).alloc (Nat.le_refl _) _
  obtain ⟨bx, hbx⟩ : ∃ b, b = w.heap.size := ⟨_, rfl⟩
  rw [← hbx] at hb ⊢
  have HX := hide (And.intro hb (And.intro hBX hbx))
  clear hb hBX hbx hX
  go_wp2
  go_loopw [3, 4] (fun ov mv wr => ∃ (k m : Nat) (out : List Nat), mv = .int .u64 m ∧ Own encI 1 3 wr X.heap.size ov k out ∧ okD out ∧ valD out + 65536 ^ k * m = n ∧ k ≤ 3 ∧ Below X.heap.size X wr) (fun _ mv _ => (intOf mv).toNat)
  case atStart => exact ⟨0, n, [], rfl, Own.nil, (fun x hx => by cases hx), by simp [valD], by omega, Below.refl _ X⟩
  case round =>
    obtain ⟨k, m, out, rfl, hown, hok, hval, hk, hB⟩ := hrel
    obtain ⟨V, rfl⟩ : ∃ V, V = wr := ⟨_, rfl⟩
    obtain ⟨A1, c1, rfl⟩ := hown.form
    have hzr := hB.size
    by_cases hm0 : m = 0
    · subst hm0
      have i1 : ¬ (0 : Int) < ((0 : Nat) : Int) := by omega
      rw [Nat.mul_zero, Nat.add_zero] at hval
      have hwd := wideE_any false A1 c1 out V (hown.sl encI_len (Nat.le_refl _)) (by rw [← hown.1]; exact hown.place.1) hok (by rw [← hown.1]; omega) (n : Int) (by rw [← hval]; rfl)
      rw [← hown.1] at hwd
      have hr := HX.out.1.below hB HX.out.1.lt
      have H5 := hide (And.intro hwd (And.intro hr (HX.out.2.1.trans (hB.mono HX.out.2.1.size))))
      clear hwd hr hval hown hok hB i1
      go_wp2_with fail
      rw [decide_eq_false (show ¬ (n : Int) < 0 by omega)]
      with_reducible refine H5.out.1.mono ?_
      rintro e w8 ⟨rb, rs, rfl, hW, hB8⟩
      have hr6 := H5.out.2.1.below hB8 H5.out.2.1.lt
      have hB9 := H5.out.2.2.trans (hB8.mono H5.out.2.2.size)
      have r0 := hr6.cell 0
      have r1 := hr6.cell 1
      have f0 := hr6.frozen 0
      have f1 := hr6.frozen 1
      have hlt := hr6.lt
      simp only [List.getElem?_toArray, List.getElem?_cons_zero, List.getElem?_cons_succ] at r0 r1
      have hbx := HX.out.2.2
      have H9 := hide (And.intro hW (And.intro hB9 (And.intro hr6 hbx)))
      clear hW hB9 hr6 hbx hB8
      go_wp2
      refine ret_at (v := .agg #[.bool rb, .string rs]) (fun W => Blk W bx 35 #[.bool rb, .string rs]) ?_ (fun W h => ?_) rfl ⟨rb, rs, rfl, H9.out.1, ?_⟩
      · exact (H9.out.2.2.1.set_ 0 (.bool rb)).set_ 1 (.string rs)
      · have a0 := h.cell 0
        have a1 := h.cell 1
        simp only [List.getElem?_toArray, List.getElem?_cons_zero, List.getElem?_cons_succ] at a0 a1
        simp [results, Tryd.results12, go_sem, a0, a1]
      · have := H9.out.2.2.2
        exact (H9.out.2.1.setCell (by dsimp only; omega) _).setCell (by dsimp only; omega) _
    · have i1 : (0 : Int) < (m : Int) := by omega
      have hk2 := pow_few hval (by omega) hn
      have hst := from_step hown.1.symm hval
      have hmn : m ≤ n := by
        have h2 : 1 * m ≤ 65536 ^ k * m := Nat.mul_le_mul_right _ (Nat.pow_pos (by omega))
        omega
      obtain ⟨r, hr⟩ : ∃ r, r = m % 65536 := ⟨_, rfl⟩
      obtain ⟨q, hq⟩ : ∃ q, q = m / 65536 := ⟨_, rfl⟩
      rw [← hr, ← hq] at hst
      have t1 : (m : Int) % 65536 = (r : Int) := by omega
      have t2 : (m : Int) / 65536 = (q : Int) := by omega
      have hr6 : r < 65536 := by omega
      have hqm : q < m := by omega
      have ur : IntKind.u64.wrap (r : Int) = (r : Int) := u64_small (by omega) (by omega)
      have uq : IntKind.u64.wrap (q : Int) = (q : Int) := u64_small (by omega) (by omega)
      have HT := hide (And.intro hst (And.intro hok (And.intro hr6 (And.intro hk2 (And.intro hqm hB)))))
      have HO := hide (hown.alloc (.cells (encI r).toArray 3))
      clear hst hok hr hq hk2 hk hB hown hval hm0 hmn hqm
      go_wp2_with (at_builtin; refine wpList_append1 rfl _ _ _ rfl Tryd.underlying56 infoI1 rfl (by omega) encI_len encI_one rfl HO.out V.heap.size 1 r rfl (Blk.new _ _ _) (by unfold maxLen; have := HT.out.2.2.2.1; omega) (by have := HT.out.2.2.2.1; omega) (by simp; omega) ?_; intro g cap w7 hown7 hg7 hB7 hat7 hgb7 hlt7)
      go_roundw
      case rel =>
        obtain ⟨hst, hok, hr6, hk2, hqm, hB⟩ := HT.out
        exact ⟨k + 1, q, out ++ [r], rfl, hown7, okD_snoc hok hr6, hst, by omega, (hB.alloc hzr _).trans hB7⟩
      case measure => have := HT.out.2.2.2.2.1; (simp [intOf]; try omega)
end Go.Proofs.YtelfnmohpjkilaaDoor
/- Layer 4, plain: what depends only on the cyclic triples of a list. No program. -/
namespace Go.Proofs.YtelfnmohpjkilaaDoor
open Go.RowKit Go.Sort
def cyc3 (t : Tri) : Tri := (t.2.1, t.2.2, t.1)
def tri3 (t : Tri) : List Tri := [t, (t.2.1, t.2.2, t.1), (t.2.2, t.1, t.2.1)]
def tripP (l : List Tri) : List Tri := l.flatMap tri3
def edOf (t : Tri) : Ed := (t.1, t.2.1)
theorem tri3_cyc (t : Tri) : (tri3 (cyc3 t)).Perm (tri3 t) := by
  show [(t.2.1, t.2.2, t.1), (t.2.2, t.1, t.2.1), (t.1, t.2.1, t.2.2)].Perm [t, (t.2.1, t.2.2, t.1), (t.2.2, t.1, t.2.1)]
  exact (List.perm_append_comm (l₁ := [(t.2.1, t.2.2, t.1), (t.2.2, t.1, t.2.1)]) (l₂ := [(t.1, t.2.1, t.2.2)]))
theorem tripP_len (l : List Tri) : (tripP l).length = 3 * l.length := by
  unfold tripP
  induction l with
  | nil => rfl
  | cons t l ih => rw [List.flatMap_cons, List.length_append, ih, List.length_cons]; show 3 + _ = _; omega
theorem edges_trip (l : List Tri) : edgesP l = (tripP l).map edOf := by
  unfold edgesP tripP
  induction l with
  | nil => rfl
  | cons t l ih => rw [List.flatMap_cons, List.flatMap_cons, List.map_append, ← ih]; rfl
theorem cors_trip (l : List Tri) : corsP l = (tripP l).map (·.1) := by
  unfold corsP tripP
  induction l with
  | nil => rfl
  | cons t l ih => rw [List.flatMap_cons, List.flatMap_cons, List.map_append, ← ih]; rfl
theorem flat_trip (l : List Tri) : l.any flatT = (tripP l).any fun u => decide (u.1 = u.2.1) := by
  unfold tripP
  induction l with
  | nil => rfl
  | cons t l ih =>
    rw [List.any_cons, List.flatMap_cons, List.any_append, ← ih]
    congr 1
    simp [tri3, flatT, Bool.or_assoc]
theorem behK_of {t : Tri} {p q x : Pt} (h : behK t p q = some x) : (p, q, x) ∈ tri3 t := by
  unfold behK at h
  unfold tri3
  split at h
  · rename_i h1
    obtain ⟨rfl, rfl⟩ := h1
    injection h with h; subst h
    simp
  · split at h
    · rename_i h1
      obtain ⟨rfl, rfl⟩ := h1
      injection h with h; subst h
      simp
    · split at h
      · rename_i h1
        obtain ⟨rfl, rfl⟩ := h1
        injection h with h; subst h
        simp
      · cases h
theorem behP_of {l : List Tri} {p q x : Pt} (h : behP l p q = some x) : (p, q, x) ∈ tripP l := by
  unfold behP at h
  obtain ⟨t, ht, hb⟩ := List.exists_of_findSome?_eq_some h
  exact List.mem_flatMap.2 ⟨t, ht, behK_of hb⟩
theorem trip_one {l : List Tri} (hn : (edgesP l).Nodup) {p q x y : Pt} (hx : (p, q, x) ∈ tripP l) (hy : (p, q, y) ∈ tripP l) : x = y := by
  rw [edges_trip] at hn
  obtain ⟨i, hi⟩ := List.mem_iff_getElem?.1 hx
  obtain ⟨j, hj⟩ := List.mem_iff_getElem?.1 hy
  obtain ⟨hil, ei⟩ := List.getElem?_eq_some_iff.1 hi
  obtain ⟨hjl, ej⟩ := List.getElem?_eq_some_iff.1 hj
  have nd := List.pairwise_iff_getElem.1 hn
  rcases Nat.lt_trichotomy i j with h | h | h
  · exact absurd (by rw [List.getElem_map, List.getElem_map, ei, ej]; rfl) (nd i j (by simpa using hil) (by simpa using hjl) h)
  · subst h; rw [ei] at ej; injection ej with _ ej; injection ej
  · exact absurd (by rw [List.getElem_map, List.getElem_map, ei, ej]; rfl) (nd j i (by simpa using hjl) (by simpa using hil) h)
theorem behP_iff {l : List Tri} (hn : (edgesP l).Nodup) {p q x : Pt} : behP l p q = some x ↔ (p, q, x) ∈ tripP l := by
  constructor
  · exact behP_of
  · intro h
    have he : (p, q) ∈ edgesP l := by rw [edges_trip]; exact List.mem_map.2 ⟨_, h, rfl⟩
    obtain ⟨y, hy⟩ := behP_has he
    have hy' : behP l p q = some y := hy
    rw [hy', trip_one hn (behP_of hy') h]
theorem pinN_len (t : Tri) (p : Pt) : (pinN t p 3).length = (cors3 t).count p := by
  show ((List.range 3).flatMap fun i => if corner t i = p then [(t, corner t ((i + 1) % 3))] else []).length = [t.1, t.2.1, t.2.2].count p
  rw [show List.range 3 = [0, 1, 2] from rfl]
  simp only [List.flatMap_cons, List.flatMap_nil, List.append_nil, List.length_append, List.count_cons, List.count_nil]
  rw [show corner t 0 = t.1 from rfl, show corner t 1 = t.2.1 from rfl, show corner t 2 = t.2.2 from rfl]
  by_cases h1 : t.1 = p <;> by_cases h2 : t.2.1 = p <;> by_cases h3 : t.2.2 = p <;> simp [h1, h2, h3]
theorem cntC_count (l : List Tri) (p : Pt) : cntC l p = (corsP l).count p := by
  unfold cntC pinL corsP
  induction l with
  | nil => rfl
  | cons t l ih => rw [List.flatMap_cons, List.flatMap_cons, List.length_append, List.count_append, ← ih, pinN_len]
section
variable {s t : List Tri} (h : (tripP s).Perm (tripP t))
include h
theorem edges_perm : (edgesP s).Perm (edgesP t) := by rw [edges_trip, edges_trip]; exact h.map _
theorem cors_perm : (corsP s).Perm (corsP t) := by rw [cors_trip, cors_trip]; exact h.map _
theorem trip_length : s.length = t.length := by have := h.length_eq; rw [tripP_len, tripP_len] at this; omega
theorem flat_perm : s.any flatT = t.any flatT := by
  rw [flat_trip, flat_trip]
  exact h.any_eq
theorem behP_perm (hn : (edgesP t).Nodup) (p q : Pt) : behP s p q = behP t p q := by
  have hs : (edgesP s).Nodup := (edges_perm h).nodup_iff.2 hn
  cases ht : behP t p q with
  | some x => exact (behP_iff hs).2 (h.mem_iff.2 ((behP_iff hn).1 ht))
  | none =>
    cases hb : behP s p q with
    | none => rfl
    | some x =>
      have := (behP_iff hn).2 (h.mem_iff.1 ((behP_iff hs).1 hb))
      rw [ht] at this; cases this
theorem cntC_perm (p : Pt) : cntC s p = cntC t p := by rw [cntC_count, cntC_count]; exact (cors_perm h).count_eq p
theorem ringM_perm (hn : (edgesP t).Nodup) (e : Ed) : ringM s e = ringM t e := by
  unfold ringM
  rw [behP_perm h hn, cntC_perm h, show (fun q => behP s e.1 q) = fun q => behP t e.1 q from funext fun q => behP_perm h hn e.1 q]
theorem border_perm : borderP s = borderP t :=
  srt_uniq sto_E (border_both s).1 (border_both t).1 fun e => by
    rw [(border_both s).2, (border_both t).2, (edges_perm h).mem_iff, (edges_perm h).mem_iff]
theorem corners_perm : cornersP s = cornersP t :=
  srt_uniq sto_P (corners_both s).1 (corners_both t).1 fun q => by
    rw [(corners_both s).2, (corners_both t).2, (cors_perm h).mem_iff]
theorem check_perm (op : Bool) : checkP s op = checkP t op := by
  rw [check_is, check_is, flat_perm h, border_perm h]
  have hnd := (edges_perm h).nodup_iff
  by_cases hn : (edgesP t).Nodup
  · have hr : (edgesP s).any (ringM s) = (edgesP t).any (ringM t) := by
      rw [(edges_perm h).any_eq]
      exact congrArg _ (funext fun e => ringM_perm h hn e)
    rw [hr]
    simp only [hnd]
  · simp only [hnd]
    by_cases hf : t.any flatT = true
    · rw [if_pos hf, if_pos hf]
    · rw [if_neg hf, if_neg hf, if_pos hn, if_pos hn]
theorem dedup_len_perm : (dedup ((edgesP s).map normE)).length = (dedup ((edgesP t).map normE)).length := by
  refine List.Perm.length_eq ((List.perm_ext_iff_of_nodup (dedup_nodup _) (dedup_nodup _)).2 fun e => ?_)
  rw [dedup_mem, dedup_mem, ((edges_perm h).map normE).mem_iff]
theorem euler_perm : eulerP s = eulerP t := by
  unfold eulerP
  rw [corners_perm h, dedup_len_perm h, trip_length h]
end
end Go.Proofs.YtelfnmohpjkilaaDoor
/- Layer 4, plain: rings as iterations; a list turned round; a piece of a list and the rest. No program. -/
namespace Go.Proofs.YtelfnmohpjkilaaDoor
open Go.RowKit Go.Sort
def iterO (b : Pt → Option Pt) : Nat → Pt → Option Pt
  | 0, s => some s
  | k + 1, s => (b s).bind (iterO b k)
theorem runO_iff (b : Pt → Option Pt) (s : Pt) : ∀ (n : Nat) (a : Pt), runO b s n a = true ↔ ∃ k, 1 ≤ k ∧ k ≤ n ∧ iterO b k a = some s
  | 0, a => by
    constructor
    · intro h; cases h
    · rintro ⟨k, h1, h2, _⟩; omega
  | n + 1, a => by
    unfold runO
    cases hb : b a with
    | none =>
      constructor
      · intro h; cases h
      · rintro ⟨k, h1, h2, h3⟩
        obtain ⟨k, rfl⟩ : ∃ j, k = j + 1 := ⟨k - 1, by omega⟩
        unfold iterO at h3
        rw [hb] at h3; cases h3
    | some x =>
      show (decide (x = s) || runO b s n x) = true ↔ _
      rw [Bool.or_eq_true, decide_eq_true_eq, runO_iff b s n x]
      constructor
      · rintro (rfl | ⟨k, h1, h2, h3⟩)
        · exact ⟨1, by omega, by omega, by unfold iterO; rw [hb]; rfl⟩
        · exact ⟨k + 1, by omega, by omega, by unfold iterO; rw [hb]; exact h3⟩
      · rintro ⟨k, h1, h2, h3⟩
        obtain ⟨k, rfl⟩ : ∃ j, k = j + 1 := ⟨k - 1, by omega⟩
        unfold iterO at h3
        rw [hb] at h3
        change iterO b k x = some s at h3
        rcases Nat.eq_zero_or_pos k with rfl | hk
        · unfold iterO at h3
          injection h3 with h3
          exact .inl h3
        · exact .inr ⟨k, hk, by omega, h3⟩
theorem ringM_iff {l : List Tri} {e : Ed} : ringM l e = true ↔ ∃ k, 1 ≤ k ∧ k < cntC l e.1 ∧ iterO (behP l e.1) k e.2 = some e.2 := by
  unfold ringM
  cases hb : behP l e.1 e.2 with
  | none =>
    constructor
    · intro h; cases h
    · rintro ⟨k, h1, _, h3⟩
      obtain ⟨k, rfl⟩ : ∃ j, k = j + 1 := ⟨k - 1, by omega⟩
      unfold iterO at h3
      rw [hb] at h3; cases h3
  | some x =>
    show prgO (behP l e.1) e.2 (cntC l e.1) (cntC l e.1) 1 x = true ↔ _
    rw [ring_same _ _ _ _ _ hb (Nat.le_refl _), runO_iff]
    constructor
    · rintro ⟨k, h1, h2, h3⟩; exact ⟨k, h1, by omega, h3⟩
    · rintro ⟨k, h1, h2, h3⟩; exact ⟨k, h1, by omega, h3⟩
theorem iterO_add (b : Pt → Option Pt) : ∀ (i j : Nat) (s : Pt), iterO b (i + j) s = (iterO b i s).bind (iterO b j)
  | 0, j, s => by rw [Nat.zero_add]; rfl
  | i + 1, j, s => by
    rw [show i + 1 + j = (i + j) + 1 by omega]
    unfold iterO
    cases hb : b s with
    | none => rfl
    | some x => exact iterO_add b i j x
theorem iterO_mono {b c : Pt → Option Pt} (h : ∀ x y, b x = some y → c x = some y) : ∀ (k : Nat) (s r : Pt), iterO b k s = some r → iterO c k s = some r
  | 0, s, r, hk => hk
  | k + 1, s, r, hk => by
    unfold iterO at hk ⊢
    cases hb : b s with
    | none => rw [hb] at hk; cases hk
    | some x =>
      rw [hb] at hk
      rw [h _ _ hb]
      exact iterO_mono h k x r hk
/-- Backwards. -/
theorem iterO_back {b c : Pt → Option Pt} (h : ∀ x y, b x = some y → c y = some x) : ∀ (k : Nat) (s r : Pt), iterO b k s = some r → iterO c k r = some s
  | 0, s, r, hk => by unfold iterO at hk ⊢; injection hk with hk; rw [hk]
  | k + 1, s, r, hk => by
    unfold iterO at hk
    cases hb : b s with
    | none => rw [hb] at hk; cases hk
    | some x =>
      rw [hb] at hk
      have h1 := iterO_back h k x r hk
      rw [iterO_add c k 1 r, h1]
      show (c x).bind _ = _
      rw [h _ _ hb]; rfl
/-- No ring but whole ones. -/
def calmP (l : List Tri) : Prop := ∀ p s k, 1 ≤ k → iterO (behP l p) k s = some s → cntC l p ≤ k
theorem calm_iff {l : List Tri} : (edgesP l).any (ringM l) = false ↔ calmP l := by
  constructor
  · intro h p s k hk hi
    refine Classical.byContradiction fun hc => ?_
    have he : (p, s) ∈ edgesP l := by
      obtain ⟨j, rfl⟩ : ∃ j, k = j + 1 := ⟨k - 1, by omega⟩
      unfold iterO at hi
      cases hb : behP l p s with
      | none => rw [hb] at hi; cases hi
      | some x => rw [edges_trip]; exact List.mem_map.2 ⟨_, behP_of hb, rfl⟩
    have : (edgesP l).any (ringM l) = true := List.any_eq_true.2 ⟨(p, s), he, ringM_iff.2 ⟨k, hk, by show k < cntC l p; omega, hi⟩⟩
    rw [h] at this; cases this
  · intro h
    cases hb : (edgesP l).any (ringM l) with
    | false => rfl
    | true =>
      obtain ⟨e, _, he⟩ := List.any_eq_true.1 hb
      obtain ⟨k, h1, h2, h3⟩ := ringM_iff.1 he
      have := h _ _ _ h1 h3
      omega
theorem check_iff {l : List Tri} {op : Bool} : checkP l op = 0 ↔ l.any flatT = false ∧ (edgesP l).Nodup ∧ (op = true ∨ borderP l = []) ∧ calmP l := by
  rw [check_is, ← calm_iff]
  by_cases h1 : l.any flatT = true
  · rw [if_pos h1, h1]; simp
  · rw [if_neg h1]
    have h1' : l.any flatT = false := by simpa using h1
    by_cases h2 : (edgesP l).Nodup
    · rw [if_neg (fun h => h h2)]
      cases op with
      | true => by_cases h4 : (edgesP l).any (ringM l) = true <;> simp [h1', h2, h4]
      | false =>
        by_cases h3 : borderP l = []
        · by_cases h4 : (edgesP l).any (ringM l) = true <;> simp [h1', h2, h3, h4]
        · have : 0 < (borderP l).length := List.length_pos_iff.2 h3
          rw [if_pos (by simpa using this)]
          simp [h3]
    · rw [if_pos h2]; simp [h2]
/-! Turned round. -/
def flipT4 (t : Tri) : Tri := (t.2.1, t.1, t.2.2)
theorem trip_flip (l : List Tri) : (tripP (l.map flipT4)).Perm ((tripP l).map flipT4) := by
  unfold tripP
  induction l with
  | nil => exact List.Perm.refl _
  | cons t l ih =>
    rw [List.map_cons, List.flatMap_cons, List.flatMap_cons, List.map_append]
    refine List.Perm.append ?_ ih
    show [(t.2.1, t.1, t.2.2), (t.1, t.2.2, t.2.1), (t.2.2, t.2.1, t.1)].Perm [(t.2.1, t.1, t.2.2), (t.2.2, t.2.1, t.1), (t.1, t.2.2, t.2.1)]
    exact List.Perm.cons _ (List.Perm.swap _ _ _)
theorem trip_cyc {l : List Tri} {p q x : Pt} (h : (p, q, x) ∈ tripP l) : (q, x, p) ∈ tripP l := by
  obtain ⟨t, ht, hu⟩ := List.mem_flatMap.1 h
  refine List.mem_flatMap.2 ⟨t, ht, ?_⟩
  obtain ⟨a, b, c⟩ := t
  simp only [tri3, List.mem_cons, List.not_mem_nil, or_false, Prod.mk.injEq] at hu ⊢
  rcases hu with ⟨rfl, rfl, rfl⟩ | ⟨rfl, rfl, rfl⟩ | ⟨rfl, rfl, rfl⟩
  · exact .inr (.inl ⟨rfl, rfl, rfl⟩)
  · exact .inr (.inr ⟨rfl, rfl, rfl⟩)
  · exact .inl ⟨rfl, rfl, rfl⟩
theorem edges_flip (l : List Tri) : (edgesP (l.map flipT4)).Perm ((edgesP l).map swapE) := by
  rw [edges_trip, edges_trip]
  refine ((trip_flip l).map edOf).trans ?_
  rw [List.map_map, List.map_map]
  exact List.Perm.refl _
theorem cors_flip (l : List Tri) : (corsP (l.map flipT4)).Perm (corsP l) := by
  rw [cors_trip, cors_trip]
  refine ((trip_flip l).map (·.1)).trans ?_
  unfold tripP
  rw [List.map_map]
  induction l with
  | nil => exact List.Perm.refl _
  | cons t l ih =>
    rw [List.flatMap_cons, List.map_append, List.map_append]
    refine List.Perm.append ?_ ih
    show [t.2.1, t.2.2, t.1].Perm [t.1, t.2.1, t.2.2]
    exact (List.perm_append_comm (l₁ := [t.2.1, t.2.2]) (l₂ := [t.1]))
theorem nodup_map_swap {L : List Ed} : (L.map swapE).Nodup ↔ L.Nodup := by
  constructor
  · intro h
    refine (List.pairwise_map.1 h).imp fun {a b} hab e => hab (by rw [e])
  · intro h
    refine List.pairwise_map.2 (h.imp fun {a b} hab e => hab ?_)
    have := congrArg swapE e
    rwa [swapE_swap, swapE_swap] at this
theorem mem_map_swap {L : List Ed} {e : Ed} : e ∈ L.map swapE ↔ swapE e ∈ L := by
  rw [List.mem_map]
  constructor
  · rintro ⟨x, hx, rfl⟩; rwa [swapE_swap]
  · intro h; exact ⟨_, h, swapE_swap e⟩
theorem border_flip_len (l : List Tri) : (borderP (l.map flipT4)).length = (borderP l).length := by
  have h1 := ((border_both (l.map flipT4)).1).nodup sto_E
  have h2 := ((border_both l).1).nodup sto_E
  have := (List.perm_ext_iff_of_nodup h1 (nodup_map_swap.2 h2)).2 fun e => by
    rw [(border_both _).2, mem_map_swap, (border_both _).2, (edges_flip l).mem_iff, (edges_flip l).mem_iff, mem_map_swap, mem_map_swap, swapE_swap]
  have := this.length_eq
  rwa [List.length_map] at this
theorem flip_flip (l : List Tri) : (l.map flipT4).map flipT4 = l := by
  rw [List.map_map]
  induction l with
  | nil => rfl
  | cons t l ih => rw [List.map_cons, ih]; rfl
theorem calm_flip {l : List Tri} (hn : (edgesP l).Nodup) (h : calmP l) : calmP (l.map flipT4) := by
  intro p s k hk hi
  have hn' : (edgesP (l.map flipT4)).Nodup := (edges_flip l).nodup_iff.2 (nodup_map_swap.2 hn)
  have hc : cntC (l.map flipT4) p = cntC l p := by rw [cntC_count, cntC_count]; exact (cors_flip l).count_eq p
  rw [hc]
  refine h p s k hk (iterO_back (fun x y hxy => ?_) k s s hi)
  rw [behP_iff hn] 
  have h1 := (trip_flip l).mem_iff.1 (behP_of hxy)
  obtain ⟨u, hu, e⟩ := List.mem_map.1 h1
  obtain ⟨a, b, c⟩ := u
  simp only [flipT4, Prod.mk.injEq] at e
  obtain ⟨rfl, rfl, rfl⟩ := e
  exact trip_cyc hu
theorem check_flip (l : List Tri) (op : Bool) : checkP (l.map flipT4) op = checkP l op := by
  have hfl : (l.map flipT4).any flatT = l.any flatT := by
    rw [List.any_map]
    have : (flatT ∘ flipT4) = flatT := by
      funext t
      obtain ⟨a, b, c⟩ := t
      rw [Bool.eq_iff_iff]
      show flatT (b, a, c) = true ↔ flatT (a, b, c) = true
      unfold flatT
      simp only [Bool.or_eq_true, decide_eq_true_eq]
      constructor
      · rintro ((h | h) | h)
        · exact .inl (.inl h.symm)
        · exact .inr h.symm
        · exact .inl (.inr h.symm)
      · rintro ((h | h) | h)
        · exact .inl (.inl h.symm)
        · exact .inr h.symm
        · exact .inl (.inr h.symm)
    rw [this]
  have hnd : (edgesP (l.map flipT4)).Nodup ↔ (edgesP l).Nodup := (edges_flip l).nodup_iff.trans nodup_map_swap
  rw [check_is, check_is, hfl, border_flip_len]
  by_cases h1 : l.any flatT = true
  · rw [if_pos h1, if_pos h1]
  · rw [if_neg h1, if_neg h1]
    by_cases hn : (edgesP l).Nodup
    · rw [if_neg (show ¬ ¬ (edgesP (l.map flipT4)).Nodup from fun h => h (hnd.2 hn)), if_neg (show ¬ ¬ (edgesP l).Nodup from fun h => h hn)]
      have : (edgesP (l.map flipT4)).any (ringM (l.map flipT4)) = (edgesP l).any (ringM l) := by
        cases hb : (edgesP l).any (ringM l) with
        | false => exact calm_iff.2 (calm_flip hn (calm_iff.1 hb))
        | true =>
          cases hc : (edgesP (l.map flipT4)).any (ringM (l.map flipT4)) with
          | true => rfl
          | false =>
            have := calm_flip (hnd.2 hn) (calm_iff.1 hc)
            rw [flip_flip] at this
            rw [calm_iff.2 this] at hb; cases hb
      rw [this]
    · rw [if_pos hn, if_pos (show ¬ (edgesP (l.map flipT4)).Nodup from fun h => hn (hnd.1 h))]
theorem euler_flip (l : List Tri) : eulerP (l.map flipT4) = eulerP l := by
  unfold eulerP
  have h1 : cornersP (l.map flipT4) = cornersP l :=
    srt_uniq sto_P (corners_both _).1 (corners_both _).1 fun q => by rw [(corners_both _).2, (corners_both _).2, (cors_flip l).mem_iff]
  have h2 : (dedup ((edgesP (l.map flipT4)).map normE)).length = (dedup ((edgesP l).map normE)).length := by
    refine List.Perm.length_eq ((List.perm_ext_iff_of_nodup (dedup_nodup _) (dedup_nodup _)).2 fun e => ?_)
    rw [dedup_mem, dedup_mem, ((edges_flip l).map normE).mem_iff, List.map_map]
    have : normE ∘ swapE = normE := funext normE_swap
    rw [this]
  rw [h1, h2, List.length_map]
/-! A piece and the rest. -/
theorem trip_app (a b : List Tri) : tripP (a ++ b) = tripP a ++ tripP b := by unfold tripP; rw [List.flatMap_append]
theorem edges_app (a b : List Tri) : edgesP (a ++ b) = edgesP a ++ edgesP b := by unfold edgesP; rw [List.flatMap_append]
theorem cors_app (a b : List Tri) : corsP (a ++ b) = corsP a ++ corsP b := by unfold corsP; rw [List.flatMap_append]
theorem piece_check {a b : List Tri} (h : checkP (a ++ b) true = 0) : checkP a true = 0 := by
  obtain ⟨h1, h2, _, h4⟩ := check_iff.1 h
  rw [List.any_append, Bool.or_eq_false_iff] at h1
  have h2' := h2
  rw [edges_app] at h2'
  have hna : (edgesP a).Nodup := (List.nodup_append.1 h2').1
  refine check_iff.2 ⟨h1.1, hna, .inl rfl, fun p s k hk hi => ?_⟩
  have h5 := h4 p s k hk (iterO_mono (fun x y hxy => (behP_iff h2).2 (by rw [trip_app]; exact List.mem_append.2 (.inl (behP_of hxy)))) k s s hi)
  rw [cntC_count, cors_app, List.count_append] at h5
  rw [cntC_count]
  omega
theorem piece_border {a b : List Tri} (hn : (edgesP (a ++ b)).Nodup) (hc : ∀ e, e ∈ edgesP (a ++ b) → swapE e ∈ edgesP (a ++ b)) (e : Ed) : e ∈ borderP a ↔ swapE e ∈ borderP b := by
  rw [edges_app] at hn hc
  have hd := (List.nodup_append.1 hn).2.2
  rw [(border_both a).2, (border_both b).2, swapE_swap]
  constructor
  · rintro ⟨h1, h2⟩
    refine ⟨?_, fun h3 => hd e h1 e h3 rfl⟩
    rcases List.mem_append.1 (hc e (List.mem_append.2 (.inl h1))) with h | h
    · exact absurd h h2
    · exact h
  · rintro ⟨h1, h2⟩
    refine ⟨?_, fun h3 => hd _ h3 _ h1 rfl⟩
    have := hc _ (List.mem_append.2 (.inr h1))
    rw [swapE_swap] at this
    rcases List.mem_append.1 this with h | h
    · exact h
    · exact absurd h h2
theorem closed_swap {l : List Tri} (h : borderP l = []) : ∀ e, e ∈ edgesP l → swapE e ∈ edgesP l := fun e he => by
  refine Classical.byContradiction fun hc => ?_
  have := ((border_both l).2 e).2 ⟨he, hc⟩
  rw [h] at this; cases this
theorem piece_border_len {a b : List Tri} (hn : (edgesP (a ++ b)).Nodup) (hc : ∀ e, e ∈ edgesP (a ++ b) → swapE e ∈ edgesP (a ++ b)) : (borderP a).length = (borderP b).length := by
  have h1 := ((border_both a).1).nodup sto_E
  have h2 := ((border_both b).1).nodup sto_E
  have := ((List.perm_ext_iff_of_nodup h1 (nodup_map_swap.2 h2)).2 fun e => by rw [mem_map_swap, piece_border hn hc]).length_eq
  rwa [List.length_map] at this
end Go.Proofs.YtelfnmohpjkilaaDoor
/- Layer 4, plain: lists that are one but for order and first corners; their volume and canonical form. No program. -/
namespace Go.Proofs.YtelfnmohpjkilaaDoor
open Go.RowKit Go.Sort
theorem volL_perm {s t : List Tri} (h : s.Perm t) : volL s = volL t := by
  induction h with
  | nil => rfl
  | cons x _ ih => rw [volL, volL, ih]
  | swap x y l => rw [volL, volL, volL, volL]; omega
  | trans _ _ ih1 ih2 => exact ih1.trans ih2
theorem volL_trip (l : List Tri) : volL (tripP l) = 3 * volL l := by
  unfold tripP
  induction l with
  | nil => rfl
  | cons t l ih =>
    rw [List.flatMap_cons, volL_app, ih, volL]
    have : volL (tri3 t) = 3 * detW4 t := by
      unfold tri3
      simp only [volL, detW4]
      grind
    omega
theorem vol_shf {s t : List Tri} (h : (tripP s).Perm (tripP t)) : volL s = volL t := by
  have := volL_perm h
  rw [volL_trip, volL_trip] at this
  omega
theorem volL_flip (l : List Tri) : volL (l.map flipT4) = -volL l := by
  induction l with
  | nil => rfl
  | cons t l ih =>
    rw [List.map_cons, volL, volL, ih]
    have : detW4 (flipT4 t) = -detW4 t := by
      simp only [detW4, flipT4]
      grind
    omega
def distT4 (t : Tri) : Prop := t.1 ≠ t.2.1 ∧ t.2.1 ≠ t.2.2 ∧ t.2.2 ≠ t.1
theorem distT4_iff {t : Tri} : flatT t = false ↔ distT4 t := by
  unfold flatT distT4
  simp only [Bool.or_eq_false_iff, decide_eq_false_iff_not, and_assoc]
theorem ltP_not4 {a b : Pt} (h : a ≠ b) : ltP a b = !ltP b a := by
  cases h1 : ltP a b <;> cases h2 : ltP b a
  · exact absurd (sto_P.total _ _ h1 h2) h
  · rfl
  · rfl
  · have := sto_P.trans _ _ _ h1 h2; rw [sto_P.irrefl] at this; cases this
theorem rotT_cyc4 {t : Tri} (h : distT4 t) : rotT (cyc3 t) = rotT t := by
  obtain ⟨a, b, c⟩ := t
  obtain ⟨hab, hbc, hca⟩ := h
  simp only at hab hbc hca
  have e1 := ltP_not4 hbc.symm
  have e2 := ltP_not4 hca.symm
  have e3 := ltP_not4 hab.symm
  show (if ltP c b = true then (if ltP a c = true then (a, b, c) else (c, a, b)) else (if ltP a b = true then (a, b, c) else (b, c, a))) = (if ltP b a = true then (if ltP c b = true then (c, a, b) else (b, c, a)) else (if ltP c a = true then (c, a, b) else (a, b, c)))
  cases h1 : ltP a b <;> cases h2 : ltP b c <;> cases h3 : ltP c a <;> simp only [h1, h2, h3] at e1 e2 e3 <;> simp [e1, e2, e3]
  · have := sto_P.trans _ _ _ e1 e3
    have := sto_P.trans _ _ _ this e2
    rw [sto_P.irrefl] at this; cases this
  · have := sto_P.trans _ _ _ (sto_P.trans _ _ _ h1 h2) h3
    rw [sto_P.irrefl] at this; cases this
theorem distT4_cyc {t : Tri} (h : distT4 t) : distT4 (cyc3 t) := ⟨h.2.1, h.2.2, h.1⟩
theorem rotT_cases4 (t : Tri) : rotT t = t ∨ rotT t = cyc3 t ∨ rotT t = cyc3 (cyc3 t) := by
  obtain ⟨a, b, c⟩ := t
  unfold rotT
  split <;> split
  · exact .inr (.inr rfl)
  · exact .inr (.inl rfl)
  · exact .inr (.inr rfl)
  · exact .inl rfl
theorem rotT_tri3 {t u : Tri} (hd : distT4 t) (h : u ∈ tri3 t) : rotT u = rotT t := by
  simp only [tri3, List.mem_cons, List.not_mem_nil, or_false] at h
  rcases h with rfl | rfl | rfl
  · rfl
  · exact rotT_cyc4 hd
  · exact (rotT_cyc4 (distT4_cyc hd)).trans (rotT_cyc4 hd)
theorem rotT_idem4 (t : Tri) : rotT (rotT t) = rotT t := by
  obtain ⟨a, b, c⟩ := t
  have h0 := sto_P.irrefl
  have htr := sto_P.trans
  have hto := sto_P.total
  show rotT (if ltP b a = true then (if ltP c b = true then (c, a, b) else (b, c, a)) else (if ltP c a = true then (c, a, b) else (a, b, c))) = (if ltP b a = true then (if ltP c b = true then (c, a, b) else (b, c, a)) else (if ltP c a = true then (c, a, b) else (a, b, c)))
  have as1 : ∀ x y, ltP x y = true → ltP y x = false := fun x y h => by
    cases h2 : ltP y x with
    | false => rfl
    | true => have := htr _ _ _ h h2; rw [h0] at this; cases this
  split <;> split
  · rename_i h1 h2
    have h3 := htr _ _ _ h2 h1
    show (if ltP a c = true then _ else (if ltP b c = true then _ else (c, a, b))) = _
    rw [as1 _ _ h3, as1 _ _ h2]; rfl
  · rename_i h1 h2
    have h2 : ltP c b = false := by simpa using h2
    show (if ltP c b = true then _ else (if ltP a b = true then _ else (b, c, a))) = _
    rw [h2, as1 _ _ h1]; rfl
  · rename_i h1 h2
    have h1 : ltP b a = false := by simpa using h1
    have h3 : ltP b c = false := by
      cases h3 : ltP b c with
      | false => rfl
      | true => have := htr _ _ _ h3 h2; rw [h1] at this; cases this
    show (if ltP a c = true then _ else (if ltP b c = true then _ else (c, a, b))) = _
    rw [as1 _ _ h2, h3]; rfl
  · rename_i h1 h2
    have h1 : ltP b a = false := by simpa using h1
    have h2 : ltP c a = false := by simpa using h2
    show (if ltP b a = true then _ else (if ltP c a = true then _ else (a, b, c))) = _
    rw [h1, h2]; rfl
/-- One but for order and first corners. -/
def ShfR (s t : List Tri) : Prop := (tripP s).Perm (tripP t) ∧ (t.any flatT = false → (s.map rotT).Perm (t.map rotT))
theorem ShfR.refl (t : List Tri) : ShfR t t := ⟨List.Perm.refl _, fun _ => List.Perm.refl _⟩
theorem ShfR.perm {s s' t : List Tri} (h : ShfR s t) (hp : s'.Perm s) : ShfR s' t :=
  ⟨(hp.flatMap_right tri3).trans h.1, fun hf => (hp.map rotT).trans (h.2 hf)⟩
theorem swap_perm4' {L : List Tri} {k j : Nat} (hk : k < L.length) (hj : j < L.length) : ((L.set k L[j]).set j L[k]).Perm L := by
  refine List.perm_iff_count.2 fun x => ?_
  by_cases hkj : k = j
  · subst hkj
    simp
  · rw [List.count_set (by simpa using hj), List.count_set hk, List.getElem_set_ne hkj]
    have h1 : L[k] ∈ L := List.getElem_mem hk
    have h2 : L[j] ∈ L := List.getElem_mem hj
    have c1 := List.count_pos_iff.2 h1
    have c2 := List.count_pos_iff.2 h2
    by_cases e1 : L[k] = x <;> by_cases e2 : L[j] = x <;> simp [e1, e2] <;> (try subst e1) <;> (try subst e2) <;> omega
theorem swap_perm4 {L : List Tri} {k j : Nat} {x y : Tri} (hx : L[k]? = some x) (hy : L[j]? = some y) : ((L.set k y).set j x).Perm L := by
  obtain ⟨hk, ek⟩ := List.getElem?_eq_some_iff.1 hx
  obtain ⟨hj, ej⟩ := List.getElem?_eq_some_iff.1 hy
  subst ek
  subst ej
  exact swap_perm4' hk hj
theorem set_split {L : List Tri} {k : Nat} {x : Tri} (hx : L[k]? = some x) (y : Tri) : L = L.take k ++ x :: L.drop (k + 1) ∧ L.set k y = L.take k ++ y :: L.drop (k + 1) := by
  obtain ⟨hk, ek⟩ := List.getElem?_eq_some_iff.1 hx
  refine ⟨?_, List.set_eq_take_append_cons_drop.trans (if_pos hk)⟩
  conv => lhs; rw [← List.take_append_drop k L, List.drop_eq_getElem_cons hk, ek]
theorem tri3_self {x y : Tri} (h : y ∈ tri3 x) : (tri3 y).Perm (tri3 x) := by
  simp only [tri3, List.mem_cons, List.not_mem_nil, or_false] at h
  rcases h with rfl | rfl | rfl
  · exact List.Perm.refl _
  · exact tri3_cyc x
  · exact (tri3_cyc (cyc3 x)).trans (tri3_cyc x)
theorem ShfR.turn {s t : List Tri} {k : Nat} {x y : Tri} (h : ShfR s t) (hx : s[k]? = some x) (hy : y ∈ tri3 x) : ShfR (s.set k y) t := by
  obtain ⟨e1, e2⟩ := set_split hx y
  constructor
  · refine List.Perm.trans ?_ h.1
    rw [e2]
    conv => rhs; rw [e1]
    unfold tripP
    rw [List.flatMap_append, List.flatMap_append, List.flatMap_cons, List.flatMap_cons]
    exact List.Perm.append_left _ ((tri3_self hy).append_right _)
  · intro hf
    have hfs : s.any flatT = false := by rw [flat_perm h.1]; exact hf
    have hd : distT4 x := distT4_iff.1 (by
      have := List.any_eq_false.1 hfs x (List.mem_of_getElem? hx)
      simpa using this)
    have : (s.set k y).map rotT = s.map rotT := by
      rw [e2]
      conv => rhs; rw [e1]
      rw [List.map_append, List.map_append, List.map_cons, List.map_cons, rotT_tri3 hd hy]
    rw [this]; exact h.2 hf
theorem ShfR.canon {s t : List Tri} (h : ShfR s t) (hf : t.any flatT = false) : canonO s = canonO t := tot_T.sort_perm (h.2 hf)
end Go.Proofs.YtelfnmohpjkilaaDoor
